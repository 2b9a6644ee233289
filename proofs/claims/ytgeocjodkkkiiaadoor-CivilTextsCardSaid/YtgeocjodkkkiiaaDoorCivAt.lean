/- civil.At; the law CivilMoments: its walk. -/
import Derived.Test.YtgeocjodkkkiiaaDoorCivMoment
namespace Go.Proofs.YtgeocjodkkkiiaaDoor
open Go.RowKit

theorem results_moment (fn : Func) (hres : fn.results = #[.cell 2 41, .tmp 3]) (tmps : Array Value) (w : World) (g : Nat) (a b c d e f : Int) (u : Value) (h2 : tmps.getD 2 undef = .pointer (some ⟨g, 0, none⟩)) (h3 : tmps.getD 3 undef = u)
    (hg : Held w g 41 #[.int .i64 a, .int .i64 b, .int .i64 c, .int .i64 d, .int .i64 e, .int .i64 f]) : (results fn tmps).run Tryd.prog w = .ok (.tuple #[.agg #[.int .i64 a, .int .i64 b, .int .i64 c, .int .i64 d, .int .i64 e, .int .i64 f], u]) w := by
  rw [results_cell_tmp hres, h2, h3]
  simp only [asAddr, Sem.run_pure, Result.andThen]
  rw [run_loadVar_row w g 41 41 #[.int .i64 a, .int .i64 b, .int .i64 c, .int .i64 d, .int .i64 e, .int .i64 f] (0, 0) _ hg Tryd.underlying41 rfl (by kernel_rfl)]

theorem at_no (t : Int) (h : t < 0 ∨ 253402300800 ≤ t) (w : World) : Calls Tryd.prog 25 #[.int .i64 t] w fun e w' => e = .returned (.tuple #[.agg #[.int .i64 0, .int .i64 0, .int .i64 0, .int .i64 0, .int .i64 0, .int .i64 0], .int .i64 60]) ∧ Below w.heap.size w w' := by
  rcases h with h | h
  · go_in
    go_wp2
    exact bodyPost_ret (v := .tuple #[.agg #[.int .i64 0, .int .i64 0, .int .i64 0, .int .i64 0, .int .i64 0, .int .i64 0], .int .i64 60]) (by simp [results, Tryd.results25, go_sem]) rfl ⟨rfl, below_alloc (Below.refl _ _) _⟩
  · have h' : ¬ t < 0 := by omega
    go_in
    go_wp2
    exact bodyPost_ret (v := .tuple #[.agg #[.int .i64 0, .int .i64 0, .int .i64 0, .int .i64 0, .int .i64 0, .int .i64 0], .int .i64 60]) (by simp [results, Tryd.results25, go_sem]) rfl ⟨rfl, below_alloc (Below.refl _ _) _⟩

set_option maxHeartbeats 2000000 in
theorem at_in (t : Int) (h0 : 0 ≤ t) (h1 : t < 253402300800) (w : World) (T : Lens w) : Calls Tryd.prog 25 #[.int .i64 t] w fun e w' => (∃ y m d, IsD (t / 86400) y m d ∧ e = .returned (.tuple #[.agg #[.int .i64 y, .int .i64 m, .int .i64 d, .int .i64 (t % 86400 / 3600), .int .i64 (t % 86400 / 60 % 60), .int .i64 (t % 60)], .int .i64 0])) ∧ Below w.heap.size w w' := by
  have HT := Lib.hid T
  clear T
  have hX := Held.new w 41 #[.int .i64 0, .int .i64 0, .int .i64 0, .int .i64 0, .int .i64 0, .int .i64 0]
  have hB0 := below_alloc (Below.refl w.heap.size w) (Obj.cells #[.int .i64 0, .int .i64 0, .int .i64 0, .int .i64 0, .int .i64 0, .int .i64 0] 41)
  go_in
  go_wp2_with fail
  refine (of_in (t / 86400) (by omega) (by omega) _ (HT.out.up hB0)).mono ?_
  rintro e w1 ⟨⟨y, m, d, hi, rfl⟩, hb1⟩
  have hA1 := hX.below hb1 (by simp)
  have hB1 := below_step hB0 hb1
  have hz : w.heap.size < w1.heap.size := by have := hb1.size; simp at this; omega
  have HI := Lib.hid hi
  clear hX hB0 hb1 hi
  have a0 := hA1.cell 0
  have a1 := hA1.cell 1
  have a2 := hA1.cell 2
  have a3 := hA1.cell 3
  have a4 := hA1.cell 4
  have a5 := hA1.cell 5
  simp only [List.getElem?_toArray, List.getElem?_cons_zero, List.getElem?_cons_succ] at a0 a1 a2 a3 a4 a5
  have f0 := hA1.frozen 0
  have f1 := hA1.frozen 1
  have f2 := hA1.frozen 2
  have f3 := hA1.frozen 3
  have f4 := hA1.frozen 4
  have f5 := hA1.frozen 5
  go_wp2
  have hR := ((((((hA1.set 0 (.int .i64 y)).set 1 (.int .i64 m)).set 2 (.int .i64 d)).set 3 (.int .i64 (t % 86400 / 3600))).set 4 (.int .i64 (t % 86400 / 60 % 60))).set 5 (.int .i64 (t % 60))).alloc (Obj.cells #[.int .i64 y, .int .i64 m, .int .i64 d] 23)
  simp only [List.setIfInBounds_toArray, List.set_cons_zero, List.set_cons_succ] at hR
  refine bodyPost_ret (results_moment _ rfl _ _ _ _ _ _ _ _ _ _ rfl rfl hR) rfl ⟨⟨y, m, d, HI.out, rfl⟩, ?_⟩
  exact below_alloc ((((((hB1.setCell (p := ⟨w.heap.size, 0, none⟩) (Nat.le_refl _) _).setCell (p := ⟨w.heap.size, 1, none⟩) (Nat.le_refl _) _).setCell (p := ⟨w.heap.size, 2, none⟩) (Nat.le_refl _) _).setCell (p := ⟨w.heap.size, 3, none⟩) (Nat.le_refl _) _).setCell (p := ⟨w.heap.size, 4, none⟩) (Nat.le_refl _) _).setCell (p := ⟨w.heap.size, 5, none⟩) (Nat.le_refl _) _) _
end Go.Proofs.YtgeocjodkkkiiaaDoor
