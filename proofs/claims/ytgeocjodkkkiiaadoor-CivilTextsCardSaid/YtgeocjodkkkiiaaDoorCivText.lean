/- civil.Text and TextAt. -/
import Derived.Test.YtgeocjodkkkiiaaDoorCivPart
import Derived.Test.YtgeocjodkkkiiaaDoorCivMoment
import Derived.Deep.RegionHeld3
namespace Go.Proofs.YtgeocjodkkkiiaaDoor
open Go.RowKit

/-- The library's table of powers. -/
abbrev P10 (w : World) : Prop := Lib.TabIs Tryd.prog w "internal/strconv.uint64pow10" .u64 Lib.pow10Tab
theorem tabIs_up {n : String} {k : IntKind} {zs : List Int} {w w' : World} (h : Lib.TabIs Tryd.prog w n k zs) (hb : Below w.heap.size w w') : Lib.TabIs Tryd.prog w' n k zs := by
  unfold Lib.TabIs World.var? at *
  cases hg : Tryd.prog.globalNamed n with
  | none => rw [hg] at h; simp at h
  | some g =>
    rw [hg] at h
    simp only [Option.bind_some] at h ⊢
    have hlt : g < w.heap.size := by
      rcases Nat.lt_or_ge g w.heap.size with h1 | h1
      · exact h1
      · rw [Array.getElem?_eq_none h1] at h; simp at h
    rw [hb.block g hlt]
    exact h
def dateL (y m d : Int) : List Int := fourL y ++ [45] ++ twoL m ++ [45] ++ twoL d
def clockL (h m s : Int) : List Int := twoL h ++ [58] ++ twoL m ++ [58] ++ twoL s
theorem strU_one (c : Int) : strU [c] = ⟨#[UInt8.ofNat c.toNat]⟩ := rfl

theorem text_no (y m d : Int) (w : World) (T : Lens w) (h : mayB y m d = false) : Calls Tryd.prog 29 #[.agg #[.int .i64 y, .int .i64 m, .int .i64 d]] w fun e w' => e = .returned (.tuple #[.string ⟨#[]⟩, .int .i64 60]) ∧ Below w.heap.size w w' := by
  have HE := Lib.hid (dayE_no h)
  have HT := Lib.hid T
  clear h T
  go_in
  go_wp2_with (go_at_call 11; refine (check_own y m d _ (HT.out.alloc _)).mono ?_; rintro e w1 ⟨rfl, hb1⟩; rw [HE.out])
  go_ret2
  exact ⟨rfl, below_step (below_alloc (Below.refl _ _) _) hb1⟩

set_option maxRecDepth 100000 in
set_option maxHeartbeats 2000000 in
theorem text_yes (y m d : Int) (w : World) (T : Lens w) (hP : P10 w) (h : mayB y m d = true) : Calls Tryd.prog 29 #[.agg #[.int .i64 y, .int .i64 m, .int .i64 d]] w fun e w' => e = .returned (.tuple #[.string (strU (dateL y m d)), .int .i64 0]) ∧ Below w.heap.size w w' := by
  have HE := Lib.hid (dayE_yes h)
  have hm := (mayB_iff y m d).1 h
  have hdn := daysN_in y m
  have HT := Lib.hid T
  have HPP := Lib.hid hP
  clear T hP h
  obtain ⟨h1, h2, h3, h4, h5, h6⟩ := hm
  go_in
  go_wp2_with fail
  refine (check_own y m d _ (HT.out.alloc _)).mono ?_
  rintro e w1 ⟨rfl, hb1⟩
  rw [HE.out]
  have hA := (Held.new w 23 #[.int .i64 y, .int .i64 m, .int .i64 d]).below hb1 (by simp)
  have hB := below_step (below_alloc (Below.refl w.heap.size w) (Obj.cells #[.int .i64 y, .int .i64 m, .int .i64 d] 23)) hb1
  have hz : w.heap.size < w1.heap.size := by have := hb1.size; simp at this; omega
  clear hb1
  have a0 := hA.cell 0
  have a1 := hA.cell 1
  have a2 := hA.cell 2
  simp only [List.getElem?_toArray, List.getElem?_cons_zero, List.getElem?_cons_succ] at a0 a1 a2
  have hP1 : P10 w1.drew := tabIs_up HPP.out hB.drew
  have HDL := Lib.hid (show dateL y m d = fourL y ++ [45] ++ twoL m ++ [45] ++ twoL d from rfl)
  have C4 := Lib.hid (digits_four y (by omega) (by omega) w1.drew hP1)
  have C2 := Lib.hid (fun W => digits_two m (by omega) (by omega) W)
  have C3 := Lib.hid (fun W => digits_two d (by omega) (by omega) W)
  have l4 : (fourL y).length = 4 := rfl
  have l2 : (twoL m).length = 2 := rfl
  have l3 : (twoL d).length = 2 := rfl
  generalize fourL y = A at HDL C4 l4
  generalize hBm : twoL m = Bm at HDL C2 l2
  generalize twoL d = Cd at HDL C3 l3
  have s1 : (strU A).size ≤ 10 := by rw [strU_size]; omega
  have s2 : (strU Bm).size ≤ 10 := by rw [strU_size]; omega
  have s3 : (strU Cd).size ≤ 10 := by rw [strU_size]; omega
  have n1 : ¬ 9223372036854775807 < (strU A).size + 1 := by omega
  have n2 : ¬ 9223372036854775807 < (strU A).size + 1 + (strU Bm).size := by omega
  have n3 : ¬ 9223372036854775807 < (strU A).size + 1 + (strU Bm).size + 1 := by omega
  have n4 : ¬ 9223372036854775807 < (strU A).size + 1 + (strU Bm).size + 1 + (strU Cd).size := by omega
  clear l4 l2 l3 hBm s1 s2 s3
  go_wp2_with fail
  go_region_held3 (fun w' => w'.cell? ⟨w.heap.size, 0, none⟩ = some (.int .i64 y) ∧ w'.cell? ⟨w.heap.size, 1, none⟩ = some (.int .i64 m) ∧ w'.cell? ⟨w.heap.size, 2, none⟩ = some (.int .i64 d))
    (first
      | go_keep
      | (refine ⟨(hb4.cell (p := ⟨w.heap.size, 0, none⟩) (by simpa using hz)).trans a0, (hb4.cell (p := ⟨w.heap.size, 1, none⟩) (by simpa using hz)).trans a1, (hb4.cell (p := ⟨w.heap.size, 2, none⟩) (by simpa using hz)).trans a2⟩))
    (first
      | (go_at_call 38; (with_reducible refine (C2.out _).mono ?_); rintro e w' ⟨rfl, rfl⟩)
      | (go_at_call 38; (with_reducible refine (C3.out _).mono ?_); rintro e w' ⟨rfl, rfl⟩)
      | (go_at_call 38; (with_reducible refine C4.out.mono ?_); rintro e w4 ⟨rfl, hb4⟩))
  all_goals
    go_wp2
    go_ret2
    refine ⟨?_, hB.drew.trans (hb4.mono hB.size)⟩
    rw [HDL.out, ← strU_append, ← strU_append, ← strU_append, ← strU_append]
    rfl
end Go.Proofs.YtgeocjodkkkiiaaDoor
