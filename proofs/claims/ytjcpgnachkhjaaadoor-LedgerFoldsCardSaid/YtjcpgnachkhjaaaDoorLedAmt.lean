/- ledger.amounts. -/
import Derived.Test.YtjcpgnachkhjaaaDoorLedSum
import Derived.Test.YtjcpgnachkhjaaaDoorLedNew
import Derived.Deep.Cut
import Derived.OrdersHeld
import Derived.Deep.RegionHeld
namespace Go.Proofs.YtjcpgnachkhjaaaDoor
open Go.RowKit
attribute [local go_sem] Oper.semAt_some
set_option linter.unusedVariables false
set_option linter.unusedSimpArgs false
set_option maxRecDepth 100000

theorem run_max4 {P : Program} (w : World) (ats : Array TypeId) (ty : TypeId) (a b c d : Int) : (Builtin.max_ ats ty #[.int .i64 a, .int .i64 b, .int .i64 c, .int .i64 d]).run P w = .ok (.int .i64 (max4 a b c d)) w := by
  have hm : ∀ x y : Int, (if y > x then y else x) = max x y := fun x y => by
    by_cases h : y > x
    · rw [if_pos h]; omega
    · rw [if_neg h]; omega
  simp only [Builtin.max_, List.foldlM, Builtin.max2, Sem.run_bind, Sem.run_pure, Result.andThen_ok, hm, max4]
attribute [local go_sem] run_max4
theorem results_cells2_tmp {fn : Func} {p q u : Tmp} {ty ty2 t1 t2 : TypeId} (h : fn.results = #[.cell p ty, .cell q ty2, .tmp u]) (tmps : Array Value) (P : Program) (w : World) (g1 g2 : Nat) (c1 c2 : Array Value) (v : Value) (d1 d2 : TypeDesc)
    (hp : tmps.getD p undef = .pointer (some ⟨g1, 0, none⟩)) (hq : tmps.getD q undef = .pointer (some ⟨g2, 0, none⟩)) (hv : tmps.getD u undef = v) (h1 : Held w g1 t1 c1) (h2 : Held w g2 t2 c2)
    (hu1 : P.underlying ty = some d1) (hu2 : P.underlying ty2 = some d2) (hd1 : d1.isRow = true) (hd2 : d2.isRow = true)
    (hi1 : (P.info? ty).map (·.size) = some c1.size) (hi2 : (P.info? ty2).map (·.size) = some c2.size) : (results fn tmps).run P w = .ok (.tuple #[.agg c1, .agg c2, v]) w := by
  have hp' : tmps[p]?.getD undef = .pointer (some ⟨g1, 0, none⟩) := by simpa using hp
  have hq' : tmps[q]?.getD undef = .pointer (some ⟨g2, 0, none⟩) := by simpa using hq
  have hv' : tmps[u]?.getD undef = v := by simpa using hv
  have l1 := run_loadVar_mid w g1 0 ty c1.toList d1 h1.range hu1 hd1 (by simpa using hi1)
  have l2 := run_loadVar_mid w g2 0 ty2 c2.toList d2 h2.range hu2 hd2 (by simpa using hi2)
  simp [results, h, hp', hq', hv', asAddr, l1, l2]
theorem results_cell_held {fn : Func} {p : Tmp} {ty t1 : TypeId} (h : fn.results = #[.cell p ty]) (tmps : Array Value) (P : Program) (w : World) (g1 : Nat) (c1 : Array Value) (d1 : TypeDesc)
    (hp : tmps.getD p undef = .pointer (some ⟨g1, 0, none⟩)) (h1 : Held w g1 t1 c1) (hu1 : P.underlying ty = some d1) (hd1 : d1.isRow = true) (hi1 : (P.info? ty).map (·.size) = some c1.size) : (results fn tmps).run P w = .ok (.agg c1) w := by
  have hp' : tmps[p]?.getD undef = .pointer (some ⟨g1, 0, none⟩) := by simpa using hp
  have l1 := run_loadVar_mid w g1 0 ty c1.toList d1 h1.range hu1 hd1 (by simpa using hi1)
  simp [results, h, hp', asAddr, l1]
theorem sum_info : (Tryd.prog.info? 36).map (fun i => (i.zero, i.size)) = some (some (.agg SumS.zero.arr), 49) := by kernel_rfl
theorem sum_zero (w : World) : (zeroValue 36).run Tryd.prog w = .ok (.agg SumS.zero.arr) w := (zero_of_info sum_info).1 w
theorem alloc_sum (w : World) : (Instr.alloc 36 true (.tuple #[])).run Tryd.prog w = .ok (.pointer (some ⟨w.heap.size, 0, none⟩)) (w.alloc (.cells SumS.zero.arr 36)) := by
  have hz := sum_zero
  generalize SumS.zero.arr = Z at hz ⊢
  simp [Instr.alloc, Sem.run_bind, hz, go_sem]
theorem sum_size : (Tryd.prog.info? 36).map (·.size) = some 49 := (zero_of_info sum_info).2
theorem tot_size : (Tryd.prog.info? 32).map (·.size) = some 3 := by kernel_rfl
theorem sum_one (s : SumS) : s.arr.all (·.oneCell') = true := by simp [SumS.arr, SumS.cells, Ent.cells, Value.oneCell']
theorem tot_one (t : Tot) : t.arr.all (·.oneCell') = true := by simp [Tot.arr, Tot.cells, Value.oneCell']
theorem sum_cells {W : World} {B : Nat} {t : TypeId} {s : SumS} (h : Held W B t s.arr) :
    W.cell? ⟨B, 0, none⟩ = some (.int .i64 s.energy) ∧ W.cell? ⟨B, 1, none⟩ = some (.int .i64 s.cost) ∧ W.cell? ⟨B, 2, none⟩ = some (.int .i64 s.intervals) ∧ W.cell? ⟨B, 3, none⟩ = some (.int .i64 s.flagged) ∧ W.cell? ⟨B, 4, none⟩ = some (.int .i64 s.suspects) ∧
    W.cell? ⟨B, 5, none⟩ = some (.int .i64 s.replaced) ∧ W.cell? ⟨B, 6, none⟩ = some (.int .i64 s.corrected) := by
  refine ⟨(h.cell 0).trans ?_, (h.cell 1).trans ?_, (h.cell 2).trans ?_, (h.cell 3).trans ?_, (h.cell 4).trans ?_, (h.cell 5).trans ?_, (h.cell 6).trans ?_⟩ <;> simp [SumS.arr, SumS.cells]
theorem tot_cells {W : World} {B : Nat} {u : TypeId} {t : Tot} (h : Held W B u t.arr) : W.cell? ⟨B, 0, none⟩ = some (.int .i64 t.energy) ∧ W.cell? ⟨B, 1, none⟩ = some (.int .i64 t.cost) ∧ W.cell? ⟨B, 2, none⟩ = some (.int .i64 t.many) :=
  ⟨h.cell 0, h.cell 1, h.cell 2⟩

set_option maxHeartbeats 4000000 in
theorem amounts_any (K : Int) (hK : K < 4611686018427387904) (t : Tot) (s : SumS) (x : Ent) (ht : t.ok K) (hs : s.ok K) (hx1 : amt x.energy) (hx2 : amt x.cost) (w : World) :
    Calls Tryd.prog 37 #[.agg t.arr, .agg s.arr, .agg x.arr] w fun e w' => e = .returned (.tuple #[.agg (amountsP t s x).1.arr, .agg (amountsP t s x).2.1.arr, .int .i64 (amountsP t s x).2.2]) ∧ Below w.heap.size w w' := by
  obtain ⟨T, hT⟩ : ∃ T, t.arr = T := ⟨_, rfl⟩
  obtain ⟨S, hS⟩ : ∃ S, s.arr = S := ⟨_, rfl⟩
  obtain ⟨X, hX⟩ : ∃ X, x.arr = X := ⟨_, rfl⟩
  rw [hT, hS, hX]
  have HT := Lib.hid hT
  have HS := Lib.hid hS
  have HX := Lib.hid hX
  have HA := Lib.hid alloc_sum
  clear hT hS hX
  go_in
  go_upto_region 2 with (with_reducible refine wpList_alloc_at (dst := some 7) 36 _ _ (by kernel_rfl) (HA.out _) ?_; simp only [World.size_alloc, Act.put, List.setIfInBounds_toArray, List.set_cons_succ, List.set_cons_zero])
  have hE0 : Held ((((((w.alloc (.cells T 32)).alloc (.cells S 36)).alloc (.cells X 28)).alloc (.cells #[.int .i64 0, .int .i64 0, .int .i64 0] 32)).alloc (.cells SumS.zero.arr 36)).alloc (.cells #[.int .i64 0, .int .i64 0, .int .i64 0, .int .i64 0] 91)) (w.heap.size + 1 + 1 + 1 + 1 + 1) 91 #[.int .i64 0, .int .i64 0, .int .i64 0, .int .i64 0] := Held.new_at (by simp)
  have hB0 : Held (((((w.alloc (.cells T 32)).alloc (.cells S 36)).alloc (.cells X 28)).alloc (.cells #[.int .i64 0, .int .i64 0, .int .i64 0] 32)).alloc (.cells SumS.zero.arr 36)) (w.heap.size + 1 + 1 + 1 + 1) 36 SumS.zero.arr := Held.new_at (by simp)
  have hA0 : Held ((((w.alloc (.cells T 32)).alloc (.cells S 36)).alloc (.cells X 28)).alloc (.cells #[.int .i64 0, .int .i64 0, .int .i64 0] 32)) (w.heap.size + 1 + 1 + 1) 32 #[.int .i64 0, .int .i64 0, .int .i64 0] := Held.new_at (by simp)
  have hX0 : Held (((w.alloc (.cells T 32)).alloc (.cells S 36)).alloc (.cells X 28)) (w.heap.size + 1 + 1) 28 X := Held.new_at (by simp)
  have hS0 : Held ((w.alloc (.cells T 32)).alloc (.cells S 36)) (w.heap.size + 1) 36 S := Held.new_at (by simp)
  have hT0 : Held (w.alloc (.cells T 32)) w.heap.size 32 T := Held.new w _ _
  have hb0 : Below w.heap.size w ((((((w.alloc (.cells T 32)).alloc (.cells S 36)).alloc (.cells X 28)).alloc (.cells #[.int .i64 0, .int .i64 0, .int .i64 0] 32)).alloc (.cells SumS.zero.arr 36)).alloc (.cells #[.int .i64 0, .int .i64 0, .int .i64 0, .int .i64 0] 91)) :=
    ((((((Below.refl _ _).alloc (Nat.le_refl _) _).alloc (by simp) _).alloc (by simp; omega) _).alloc (by simp; omega) _).alloc (by simp; omega) _).alloc (by simp; omega) _
  replace hB0 := hB0.alloc (.cells #[.int .i64 0, .int .i64 0, .int .i64 0, .int .i64 0] 91)
  replace hA0 := (hA0.alloc (.cells SumS.zero.arr 36)).alloc (.cells #[.int .i64 0, .int .i64 0, .int .i64 0, .int .i64 0] 91)
  replace hX0 := ((hX0.alloc (.cells #[.int .i64 0, .int .i64 0, .int .i64 0] 32)).alloc (.cells SumS.zero.arr 36)).alloc (.cells #[.int .i64 0, .int .i64 0, .int .i64 0, .int .i64 0] 91)
  replace hS0 := (((hS0.alloc (.cells X 28)).alloc (.cells #[.int .i64 0, .int .i64 0, .int .i64 0] 32)).alloc (.cells SumS.zero.arr 36)).alloc (.cells #[.int .i64 0, .int .i64 0, .int .i64 0, .int .i64 0] 91)
  replace hT0 := ((((hT0.alloc (.cells S 36)).alloc (.cells X 28)).alloc (.cells #[.int .i64 0, .int .i64 0, .int .i64 0] 32)).alloc (.cells SumS.zero.arr 36)).alloc (.cells #[.int .i64 0, .int .i64 0, .int .i64 0, .int .i64 0] 91)
  generalize ((((((w.alloc (.cells T 32)).alloc (.cells S 36)).alloc (.cells X 28)).alloc (.cells #[.int .i64 0, .int .i64 0, .int .i64 0] 32)).alloc (.cells SumS.zero.arr 36)).alloc (.cells #[.int .i64 0, .int .i64 0, .int .i64 0, .int .i64 0] 91)) = W1 at hE0 hB0 hA0 hX0 hS0 hT0 hb0 ⊢
  have tc := tot_cells (t := t) (by rw [HT.out]; exact hT0)
  have sc := sum_cells (s := s) (by rw [HS.out]; exact hS0)
  have xc := ent_cells (e := x) (by rw [HX.out]; exact hX0)
  obtain ⟨tc0, tc1, tc2⟩ := tc
  obtain ⟨sc0, sc1, _⟩ := sc
  obtain ⟨_, _, _, xc3, _, _, xc6, _⟩ := xc
  have ec0 : W1.cell? ⟨w.heap.size + 1 + 1 + 1 + 1 + 1, 0, none⟩ = some (.int .i64 0) := hE0.cell 0
  have ec1 : W1.cell? ⟨w.heap.size + 1 + 1 + 1 + 1 + 1, 1, none⟩ = some (.int .i64 0) := hE0.cell 1
  have ec2 : W1.cell? ⟨w.heap.size + 1 + 1 + 1 + 1 + 1, 2, none⟩ = some (.int .i64 0) := hE0.cell 2
  have ec3 : W1.cell? ⟨w.heap.size + 1 + 1 + 1 + 1 + 1, 3, none⟩ = some (.int .i64 0) := hE0.cell 3
  have tf0 := hT0.frozen 0
  have tf1 := hT0.frozen 1
  have tf2 := hT0.frozen 2
  have sf0 := hS0.frozen 0
  have sf1 := hS0.frozen 1
  have ef0 := hE0.frozen 0
  have ef1 := hE0.frozen 1
  have ef2 := hE0.frozen 2
  have ef3 := hE0.frozen 3
  obtain ⟨ht1, ht2, ht3, ht4⟩ := ht
  have hsh := hs.hash
  obtain ⟨hs1, hs2, _⟩ := hs
  have C1 := Lib.hid (fun v => sum_any t.energy x.energy ht1 hx1 v)
  have C2 := Lib.hid (fun v => sum_any t.cost x.cost ht2 hx2 v)
  have C3 := Lib.hid (fun v => sum_any s.energy x.energy hs1 hx1 v)
  have C4 := Lib.hid (fun v => sum_any s.cost x.cost hs2 hx2 v)
  clear ht1 ht2 hs1 hs2 hx1 hx2
  have HE0 := Lib.hid hE0
  have HB0 := Lib.hid hB0
  have HA0 := Lib.hid hA0
  have HS0 := Lib.hid hS0
  have HT0 := Lib.hid hT0
  have HBl := Lib.hid hb0
  clear hE0 hB0 hA0 hX0 hS0 hT0 hb0
  go_upto_region 7 with (go_at_call 49; first | (with_reducible refine (C1.out _).mono ?_; rintro e w' ⟨rfl, rfl⟩) | (with_reducible refine (C2.out _).mono ?_; rintro e w' ⟨rfl, rfl⟩) | (with_reducible refine (C3.out _).mono ?_; rintro e w' ⟨rfl, rfl⟩) | (with_reducible refine (C4.out _).mono ?_; rintro e w' ⟨rfl, rfl⟩))
  obtain ⟨T2, hT2⟩ : ∃ A, (amountsP t s x).1.arr = A := ⟨_, rfl⟩
  obtain ⟨S2, hS2⟩ : ∃ A, (amountsP t s x).2.1.arr = A := ⟨_, rfl⟩
  have hTz : T2.size = 3 := by rw [← hT2]; rfl
  have hSz : S2.size = 49 := by rw [← hS2]; exact SumS.arr_size _ hsh
  have h1T : T2.all (·.oneCell') = true := by rw [← hT2]; exact tot_one _
  have h1S : S2.all (·.oneCell') = true := by rw [← hS2]; exact sum_one _
  obtain ⟨E2, hE2⟩ : ∃ A : Array Value, #[Value.int .i64 (sumP t.energy x.energy).2, .int .i64 (sumP t.cost x.cost).2, .int .i64 (sumP s.energy x.energy).2, .int .i64 (sumP s.cost x.cost).2] = A := ⟨_, rfl⟩
  have keyT : ∀ W2 : World, Held W2 w.heap.size 32 (((T.setIfInBounds 0 (.int .i64 (sumP t.energy x.energy).1)).setIfInBounds 1 (.int .i64 (sumP t.cost x.cost).1)).setIfInBounds 2 (.int .i64 (t.many + 1))) → Held W2 w.heap.size 32 T2 := fun W2 h => by
    rw [← hT2]; rw [← HT.out] at h; simpa [Tot.arr, Tot.cells, amountsP] using h
  have keyS : ∀ W2 : World, Held W2 (w.heap.size + 1) 36 ((S.setIfInBounds 0 (.int .i64 (sumP s.energy x.energy).1)).setIfInBounds 1 (.int .i64 (sumP s.cost x.cost).1)) → Held W2 (w.heap.size + 1) 36 S2 := fun W2 h => by
    rw [← hS2]; rw [← HS.out] at h; simpa [SumS.arr, SumS.cells, amountsP] using h
  obtain ⟨W2, hW2⟩ : ∃ W, ((((((((w'.setCell ⟨w.heap.size, 0, none⟩ (.int .i64 (sumP t.energy x.energy).1)).setCell ⟨w.heap.size + 1 + 1 + 1 + 1 + 1, 0, none⟩ (.int .i64 (sumP t.energy x.energy).2)).setCell ⟨w.heap.size, 1, none⟩ (.int .i64 (sumP t.cost x.cost).1)).setCell ⟨w.heap.size + 1 + 1 + 1 + 1 + 1, 1, none⟩ (.int .i64 (sumP t.cost x.cost).2)).setCell ⟨w.heap.size + 1, 0, none⟩ (.int .i64 (sumP s.energy x.energy).1)).setCell ⟨w.heap.size + 1 + 1 + 1 + 1 + 1, 2, none⟩ (.int .i64 (sumP s.energy x.energy).2)).setCell ⟨w.heap.size + 1, 1, none⟩ (.int .i64 (sumP s.cost x.cost).1)).setCell ⟨w.heap.size + 1 + 1 + 1 + 1 + 1, 3, none⟩ (.int .i64 (sumP s.cost x.cost).2)).setCell ⟨w.heap.size, 2, none⟩ (.int .i64 (t.many + 1)) = W := ⟨_, rfl⟩
  have hT9 := (((((((((HT0.out.set 0 (.int .i64 (sumP t.energy x.energy).1)).far (p := ⟨w.heap.size + 1 + 1 + 1 + 1 + 1, 0, none⟩) (by show w.heap.size ≠ w.heap.size + 1 + 1 + 1 + 1 + 1; omega) (.int .i64 (sumP t.energy x.energy).2)).set 1 (.int .i64 (sumP t.cost x.cost).1)).far (p := ⟨w.heap.size + 1 + 1 + 1 + 1 + 1, 1, none⟩) (by show w.heap.size ≠ w.heap.size + 1 + 1 + 1 + 1 + 1; omega) (.int .i64 (sumP t.cost x.cost).2)).far (p := ⟨w.heap.size + 1, 0, none⟩) (by show w.heap.size ≠ w.heap.size + 1; omega) (.int .i64 (sumP s.energy x.energy).1)).far (p := ⟨w.heap.size + 1 + 1 + 1 + 1 + 1, 2, none⟩) (by show w.heap.size ≠ w.heap.size + 1 + 1 + 1 + 1 + 1; omega) (.int .i64 (sumP s.energy x.energy).2)).far (p := ⟨w.heap.size + 1, 1, none⟩) (by show w.heap.size ≠ w.heap.size + 1; omega) (.int .i64 (sumP s.cost x.cost).1)).far (p := ⟨w.heap.size + 1 + 1 + 1 + 1 + 1, 3, none⟩) (by show w.heap.size ≠ w.heap.size + 1 + 1 + 1 + 1 + 1; omega) (.int .i64 (sumP s.cost x.cost).2)).set 2 (.int .i64 (t.many + 1)))
  have hS9 := (((((((((HS0.out.far (p := ⟨w.heap.size, 0, none⟩) (by show w.heap.size + 1 ≠ w.heap.size; omega) (.int .i64 (sumP t.energy x.energy).1)).far (p := ⟨w.heap.size + 1 + 1 + 1 + 1 + 1, 0, none⟩) (by show w.heap.size + 1 ≠ w.heap.size + 1 + 1 + 1 + 1 + 1; omega) (.int .i64 (sumP t.energy x.energy).2)).far (p := ⟨w.heap.size, 1, none⟩) (by show w.heap.size + 1 ≠ w.heap.size; omega) (.int .i64 (sumP t.cost x.cost).1)).far (p := ⟨w.heap.size + 1 + 1 + 1 + 1 + 1, 1, none⟩) (by show w.heap.size + 1 ≠ w.heap.size + 1 + 1 + 1 + 1 + 1; omega) (.int .i64 (sumP t.cost x.cost).2)).set 0 (.int .i64 (sumP s.energy x.energy).1)).far (p := ⟨w.heap.size + 1 + 1 + 1 + 1 + 1, 2, none⟩) (by show w.heap.size + 1 ≠ w.heap.size + 1 + 1 + 1 + 1 + 1; omega) (.int .i64 (sumP s.energy x.energy).2)).set 1 (.int .i64 (sumP s.cost x.cost).1)).far (p := ⟨w.heap.size + 1 + 1 + 1 + 1 + 1, 3, none⟩) (by show w.heap.size + 1 ≠ w.heap.size + 1 + 1 + 1 + 1 + 1; omega) (.int .i64 (sumP s.cost x.cost).2)).far (p := ⟨w.heap.size, 2, none⟩) (by show w.heap.size + 1 ≠ w.heap.size; omega) (.int .i64 (t.many + 1)))
  have hA9 := (((((((((HA0.out.far (p := ⟨w.heap.size, 0, none⟩) (by show w.heap.size + 1 + 1 + 1 ≠ w.heap.size; omega) (.int .i64 (sumP t.energy x.energy).1)).far (p := ⟨w.heap.size + 1 + 1 + 1 + 1 + 1, 0, none⟩) (by show w.heap.size + 1 + 1 + 1 ≠ w.heap.size + 1 + 1 + 1 + 1 + 1; omega) (.int .i64 (sumP t.energy x.energy).2)).far (p := ⟨w.heap.size, 1, none⟩) (by show w.heap.size + 1 + 1 + 1 ≠ w.heap.size; omega) (.int .i64 (sumP t.cost x.cost).1)).far (p := ⟨w.heap.size + 1 + 1 + 1 + 1 + 1, 1, none⟩) (by show w.heap.size + 1 + 1 + 1 ≠ w.heap.size + 1 + 1 + 1 + 1 + 1; omega) (.int .i64 (sumP t.cost x.cost).2)).far (p := ⟨w.heap.size + 1, 0, none⟩) (by show w.heap.size + 1 + 1 + 1 ≠ w.heap.size + 1; omega) (.int .i64 (sumP s.energy x.energy).1)).far (p := ⟨w.heap.size + 1 + 1 + 1 + 1 + 1, 2, none⟩) (by show w.heap.size + 1 + 1 + 1 ≠ w.heap.size + 1 + 1 + 1 + 1 + 1; omega) (.int .i64 (sumP s.energy x.energy).2)).far (p := ⟨w.heap.size + 1, 1, none⟩) (by show w.heap.size + 1 + 1 + 1 ≠ w.heap.size + 1; omega) (.int .i64 (sumP s.cost x.cost).1)).far (p := ⟨w.heap.size + 1 + 1 + 1 + 1 + 1, 3, none⟩) (by show w.heap.size + 1 + 1 + 1 ≠ w.heap.size + 1 + 1 + 1 + 1 + 1; omega) (.int .i64 (sumP s.cost x.cost).2)).far (p := ⟨w.heap.size, 2, none⟩) (by show w.heap.size + 1 + 1 + 1 ≠ w.heap.size; omega) (.int .i64 (t.many + 1)))
  have hB9 := (((((((((HB0.out.far (p := ⟨w.heap.size, 0, none⟩) (by show w.heap.size + 1 + 1 + 1 + 1 ≠ w.heap.size; omega) (.int .i64 (sumP t.energy x.energy).1)).far (p := ⟨w.heap.size + 1 + 1 + 1 + 1 + 1, 0, none⟩) (by show w.heap.size + 1 + 1 + 1 + 1 ≠ w.heap.size + 1 + 1 + 1 + 1 + 1; omega) (.int .i64 (sumP t.energy x.energy).2)).far (p := ⟨w.heap.size, 1, none⟩) (by show w.heap.size + 1 + 1 + 1 + 1 ≠ w.heap.size; omega) (.int .i64 (sumP t.cost x.cost).1)).far (p := ⟨w.heap.size + 1 + 1 + 1 + 1 + 1, 1, none⟩) (by show w.heap.size + 1 + 1 + 1 + 1 ≠ w.heap.size + 1 + 1 + 1 + 1 + 1; omega) (.int .i64 (sumP t.cost x.cost).2)).far (p := ⟨w.heap.size + 1, 0, none⟩) (by show w.heap.size + 1 + 1 + 1 + 1 ≠ w.heap.size + 1; omega) (.int .i64 (sumP s.energy x.energy).1)).far (p := ⟨w.heap.size + 1 + 1 + 1 + 1 + 1, 2, none⟩) (by show w.heap.size + 1 + 1 + 1 + 1 ≠ w.heap.size + 1 + 1 + 1 + 1 + 1; omega) (.int .i64 (sumP s.energy x.energy).2)).far (p := ⟨w.heap.size + 1, 1, none⟩) (by show w.heap.size + 1 + 1 + 1 + 1 ≠ w.heap.size + 1; omega) (.int .i64 (sumP s.cost x.cost).1)).far (p := ⟨w.heap.size + 1 + 1 + 1 + 1 + 1, 3, none⟩) (by show w.heap.size + 1 + 1 + 1 + 1 ≠ w.heap.size + 1 + 1 + 1 + 1 + 1; omega) (.int .i64 (sumP s.cost x.cost).2)).far (p := ⟨w.heap.size, 2, none⟩) (by show w.heap.size + 1 + 1 + 1 + 1 ≠ w.heap.size; omega) (.int .i64 (t.many + 1)))
  have hE9 := (((((((((HE0.out.far (p := ⟨w.heap.size, 0, none⟩) (by show w.heap.size + 1 + 1 + 1 + 1 + 1 ≠ w.heap.size; omega) (.int .i64 (sumP t.energy x.energy).1)).set 0 (.int .i64 (sumP t.energy x.energy).2)).far (p := ⟨w.heap.size, 1, none⟩) (by show w.heap.size + 1 + 1 + 1 + 1 + 1 ≠ w.heap.size; omega) (.int .i64 (sumP t.cost x.cost).1)).set 1 (.int .i64 (sumP t.cost x.cost).2)).far (p := ⟨w.heap.size + 1, 0, none⟩) (by show w.heap.size + 1 + 1 + 1 + 1 + 1 ≠ w.heap.size + 1; omega) (.int .i64 (sumP s.energy x.energy).1)).set 2 (.int .i64 (sumP s.energy x.energy).2)).far (p := ⟨w.heap.size + 1, 1, none⟩) (by show w.heap.size + 1 + 1 + 1 + 1 + 1 ≠ w.heap.size + 1; omega) (.int .i64 (sumP s.cost x.cost).1)).set 3 (.int .i64 (sumP s.cost x.cost).2)).far (p := ⟨w.heap.size, 2, none⟩) (by show w.heap.size + 1 + 1 + 1 + 1 + 1 ≠ w.heap.size; omega) (.int .i64 (t.many + 1)))
  have hb9 := (((((((((HBl.out.setCell (p := ⟨w.heap.size, 0, none⟩) (by show w.heap.size ≤ w.heap.size; omega) (.int .i64 (sumP t.energy x.energy).1)).setCell (p := ⟨w.heap.size + 1 + 1 + 1 + 1 + 1, 0, none⟩) (by show w.heap.size ≤ w.heap.size + 1 + 1 + 1 + 1 + 1; omega) (.int .i64 (sumP t.energy x.energy).2)).setCell (p := ⟨w.heap.size, 1, none⟩) (by show w.heap.size ≤ w.heap.size; omega) (.int .i64 (sumP t.cost x.cost).1)).setCell (p := ⟨w.heap.size + 1 + 1 + 1 + 1 + 1, 1, none⟩) (by show w.heap.size ≤ w.heap.size + 1 + 1 + 1 + 1 + 1; omega) (.int .i64 (sumP t.cost x.cost).2)).setCell (p := ⟨w.heap.size + 1, 0, none⟩) (by show w.heap.size ≤ w.heap.size + 1; omega) (.int .i64 (sumP s.energy x.energy).1)).setCell (p := ⟨w.heap.size + 1 + 1 + 1 + 1 + 1, 2, none⟩) (by show w.heap.size ≤ w.heap.size + 1 + 1 + 1 + 1 + 1; omega) (.int .i64 (sumP s.energy x.energy).2)).setCell (p := ⟨w.heap.size + 1, 1, none⟩) (by show w.heap.size ≤ w.heap.size + 1; omega) (.int .i64 (sumP s.cost x.cost).1)).setCell (p := ⟨w.heap.size + 1 + 1 + 1 + 1 + 1, 3, none⟩) (by show w.heap.size ≤ w.heap.size + 1 + 1 + 1 + 1 + 1; omega) (.int .i64 (sumP s.cost x.cost).2)).setCell (p := ⟨w.heap.size, 2, none⟩) (by show w.heap.size ≤ w.heap.size; omega) (.int .i64 (t.many + 1)))
  rw [hW2] at hT9 hS9 hA9 hB9 hE9 hb9 ⊢
  clear hW2
  replace hT9 := keyT _ hT9
  replace hS9 := keyS _ hS9
  replace hE9 : Held W2 (w.heap.size + 1 + 1 + 1 + 1 + 1) 91 E2 := by rw [← hE2]; simpa using hE9
  have hw9 : W2.heap.size = W2.drew.heap.size := rfl
  obtain ⟨wd, hwd⟩ : ∃ W, W2.drew = W := ⟨_, rfl⟩
  have hTd : Held wd w.heap.size 32 T2 := by rw [← hwd]; exact hT9
  have hSd : Held wd (w.heap.size + 1) 36 S2 := by rw [← hwd]; exact hS9
  have hEd : Held wd (w.heap.size + 1 + 1 + 1 + 1 + 1) 91 E2 := by rw [← hwd]; exact hE9
  have hAd : Held wd (w.heap.size + 1 + 1 + 1) 32 #[.int .i64 0, .int .i64 0, .int .i64 0] := by rw [← hwd]; exact hA9
  have hBd : Held wd (w.heap.size + 1 + 1 + 1 + 1) 36 SumS.zero.arr := by rw [← hwd]; exact hB9
  have hbd : Below w.heap.size w wd := by rw [← hwd]; exact hb9.drew
  have HFA := Lib.hid ((hAd.whole (cs := T2) (by rw [hTz]; rfl)).sets_far (w.heap.size + 1 + 1 + 1 + 1) 0 S2.toList (by omega))
  have HFB := Lib.hid ((hBd.sets_far (w.heap.size + 1 + 1 + 1) 0 T2.toList (by omega)).whole (cs := S2) (by rw [hSz]; exact (SumS.arr_size _ rfl).symm))
  have HTA := Lib.hid (hAd.there 0 T2.size (by rw [hTz]; exact Nat.le_refl _))
  have HTB := Lib.hid ((hBd.sets_far (w.heap.size + 1 + 1 + 1) 0 T2.toList (by omega)).there 0 S2.size (by rw [hSz, SumS.arr_size _ rfl]; exact Nat.le_refl _))
  have HBF := Lib.hid (below_setCells S2.toList 0 (below_setCells T2.toList 0 hbd (show w.heap.size ≤ w.heap.size + 1 + 1 + 1 by omega)) (show w.heap.size ≤ w.heap.size + 1 + 1 + 1 + 1 by omega))
  have H1T := Lib.hid h1T
  have H1S := Lib.hid h1S
  have IT : Hid ((Tryd.prog.info? 32).map (·.size) = some T2.toList.length) := Lib.hid (by rw [tot_size, Array.length_toList, hTz])
  have IS : Hid ((Tryd.prog.info? 36).map (·.size) = some S2.toList.length) := Lib.hid (by rw [sum_size, Array.length_toList, hSz])
  have ITs : Hid ((Tryd.prog.info? 32).map (·.size) = some T2.size) := Lib.hid (by rw [tot_size, hTz])
  have ISs : Hid ((Tryd.prog.info? 36).map (·.size) = some S2.size) := Lib.hid (by rw [sum_size, hSz])
  have HT2 := Lib.hid hT2
  have HS2 := Lib.hid hS2
  have HE2 := Lib.hid hE2
  have hS : Held wd w.heap.size 32 T2 ∧ Held wd (w.heap.size + 1) 36 S2 ∧ Held wd (w.heap.size + 1 + 1 + 1 + 1 + 1) 91 E2 := ⟨hTd, hSd, hEd⟩
  clear hT9 hS9 hA9 hB9 hE9 hb9 hTd hSd hEd hAd hBd hbd keyT keyS hT2 hS2 h1T h1S hTz hSz tc0 tc1 tc2 sc0 sc1 xc3 xc6 ec0 ec1 ec2 ec3 tf0 tf1 tf2 sf0 sf1 ef0 ef1 ef2 ef3 C1 C2 C3 C4 HE0 HB0 HA0 HS0 HT0 HBl hw9
  subst hE2
  refine wp_region_held (S := fun W => Held W w.heap.size 32 T2 ∧ Held W (w.heap.size + 1) 36 S2 ∧ Held W (w.heap.size + 1 + 1 + 1 + 1 + 1) 91 #[Value.int .i64 (sumP t.energy x.energy).2, .int .i64 (sumP t.cost x.cost).2, .int .i64 (sumP s.energy x.energy).2, .int .i64 (sumP s.cost x.cost).2]) (by kernel_rfl) ?_
  change wpAnyH _ _ _ _ _ _ _ _ W2.drew
  rw [hwd]
  clear hwd
  refine wpAnyH_take (i := 0) (v := Value.agg T2) rfl (by kernel_rfl) (by kernel_rfl) (by kernel_rfl) (fun _ _ _ h => h) ?y0_1 hS ?r0_1
  case y0_1 => exact yieldsIf_load_mid (by kernel_rfl) 32 (.tmp 3) rfl (w.heap.size) 0 (by kernel_rfl) T2.toList _ (fun _ h => h.1.range) Tryd.underlying32 (by kernel_rfl) IT.out
  simp only [Act.put]
  try simp only [List.getElem_toArray, List.getElem_cons_zero]
  try simp only [List.setIfInBounds_toArray, List.set_cons_succ, List.set_cons_zero]
  refine wpAnyH_take (i := 1) (v := Value.agg S2) rfl (by kernel_rfl) (by kernel_rfl) (by kernel_rfl) (fun _ _ _ h => h) ?y1_2 hS ?r1_2
  case y1_2 => exact yieldsIf_load_mid (by kernel_rfl) 36 (.tmp 4) rfl (w.heap.size + 1) 0 (by kernel_rfl) S2.toList _ (fun _ h => h.2.1.range) Tryd.underlying36 (by kernel_rfl) IS.out
  simp only [Act.put]
  try simp only [List.getElem_toArray, List.getElem_cons_succ, List.getElem_cons_zero]
  try simp only [List.setIfInBounds_toArray, List.set_cons_succ, List.set_cons_zero]
  refine wpAnyH_take (i := 2) (v := ?v2_3) rfl (by kernel_rfl) (by kernel_rfl) (by kernel_rfl) (fun _ _ _ h => h) (Or.inl ⟨by rfl, ?y2_3⟩) hS ?r2_3
  case y2_3 =>
    rintro W hH
    go_simp
    with_reducible rfl
  simp only [Act.put]
  try simp only [List.getElem_toArray, List.getElem_cons_succ, List.getElem_cons_zero]
  try simp only [List.setIfInBounds_toArray, List.set_cons_succ, List.set_cons_zero]
  refine wpAnyH_take (i := 3) (v := ?v3_4) rfl (by kernel_rfl) (by kernel_rfl) (by kernel_rfl) (fun _ _ _ h => h) (Or.inl ⟨by rfl, ?y3_4⟩) hS ?r3_4
  case y3_4 =>
    rintro W hH
    obtain ⟨_, _, hEE⟩ := hH
    have e0 := hEE.cell 0
    have e1 := hEE.cell 1
    have e2 := hEE.cell 2
    have e3 := hEE.cell 3
    clear hEE
    simp only [List.getElem?_toArray, List.getElem?_cons_zero, List.getElem?_cons_succ] at e0 e1 e2 e3
    go_simp
    with_reducible rfl
  simp only [Act.put]
  try simp only [List.getElem_toArray, List.getElem_cons_succ, List.getElem_cons_zero]
  try simp only [List.setIfInBounds_toArray, List.set_cons_succ, List.set_cons_zero]
  refine wpAnyH_take (i := 4) (v := ?v4_5) rfl (by kernel_rfl) (by kernel_rfl) (by kernel_rfl) (fun _ _ _ h => h) (Or.inl ⟨by rfl, ?y4_5⟩) hS ?r4_5
  case y4_5 =>
    rintro W hH
    go_simp
    with_reducible rfl
  simp only [Act.put]
  try simp only [List.getElem_toArray, List.getElem_cons_succ, List.getElem_cons_zero]
  try simp only [List.setIfInBounds_toArray, List.set_cons_succ, List.set_cons_zero]
  refine wpAnyH_take (i := 5) (v := ?v5_6) rfl (by kernel_rfl) (by kernel_rfl) (by kernel_rfl) (fun _ _ _ h => h) (Or.inl ⟨by rfl, ?y5_6⟩) hS ?r5_6
  case y5_6 =>
    rintro W hH
    obtain ⟨_, _, hEE⟩ := hH
    have e0 := hEE.cell 0
    have e1 := hEE.cell 1
    have e2 := hEE.cell 2
    have e3 := hEE.cell 3
    clear hEE
    simp only [List.getElem?_toArray, List.getElem?_cons_zero, List.getElem?_cons_succ] at e0 e1 e2 e3
    go_simp
    with_reducible rfl
  simp only [Act.put]
  try simp only [List.getElem_toArray, List.getElem_cons_succ, List.getElem_cons_zero]
  try simp only [List.setIfInBounds_toArray, List.set_cons_succ, List.set_cons_zero]
  refine wpAnyH_take (i := 6) (v := ?v6_7) rfl (by kernel_rfl) (by kernel_rfl) (by kernel_rfl) (fun _ _ _ h => h) (Or.inl ⟨by rfl, ?y6_7⟩) hS ?r6_7
  case y6_7 =>
    rintro W hH
    go_simp
    with_reducible rfl
  simp only [Act.put]
  try simp only [List.getElem_toArray, List.getElem_cons_succ, List.getElem_cons_zero]
  try simp only [List.setIfInBounds_toArray, List.set_cons_succ, List.set_cons_zero]
  refine wpAnyH_take (i := 7) (v := ?v7_8) rfl (by kernel_rfl) (by kernel_rfl) (by kernel_rfl) (fun _ _ _ h => h) (Or.inl ⟨by rfl, ?y7_8⟩) hS ?r7_8
  case y7_8 =>
    rintro W hH
    obtain ⟨_, _, hEE⟩ := hH
    have e0 := hEE.cell 0
    have e1 := hEE.cell 1
    have e2 := hEE.cell 2
    have e3 := hEE.cell 3
    clear hEE
    simp only [List.getElem?_toArray, List.getElem?_cons_zero, List.getElem?_cons_succ] at e0 e1 e2 e3
    go_simp
    with_reducible rfl
  simp only [Act.put]
  try simp only [List.getElem_toArray, List.getElem_cons_succ, List.getElem_cons_zero]
  try simp only [List.setIfInBounds_toArray, List.set_cons_succ, List.set_cons_zero]
  refine wpAnyH_take (i := 8) (v := ?v8_9) rfl (by kernel_rfl) (by kernel_rfl) (by kernel_rfl) (fun _ _ _ h => h) (Or.inl ⟨by rfl, ?y8_9⟩) hS ?r8_9
  case y8_9 =>
    rintro W hH
    go_simp
    with_reducible rfl
  simp only [Act.put]
  try simp only [List.getElem_toArray, List.getElem_cons_succ, List.getElem_cons_zero]
  try simp only [List.setIfInBounds_toArray, List.set_cons_succ, List.set_cons_zero]
  refine wpAnyH_take (i := 9) (v := ?v9_10) rfl (by kernel_rfl) (by kernel_rfl) (by kernel_rfl) (fun _ _ _ h => h) (Or.inl ⟨by rfl, ?y9_10⟩) hS ?r9_10
  case y9_10 =>
    rintro W hH
    obtain ⟨_, _, hEE⟩ := hH
    have e0 := hEE.cell 0
    have e1 := hEE.cell 1
    have e2 := hEE.cell 2
    have e3 := hEE.cell 3
    clear hEE
    simp only [List.getElem?_toArray, List.getElem?_cons_zero, List.getElem?_cons_succ] at e0 e1 e2 e3
    go_simp
    with_reducible rfl
  simp only [Act.put]
  try simp only [List.getElem_toArray, List.getElem_cons_succ, List.getElem_cons_zero]
  try simp only [List.setIfInBounds_toArray, List.set_cons_succ, List.set_cons_zero]
  refine wpAnyH_take (i := 10) (v := ?v10_11) rfl (by kernel_rfl) (by kernel_rfl) (by kernel_rfl) (fun _ _ _ h => h) (Or.inl ⟨by rfl, ?y10_11⟩) hS ?r10_11
  case y10_11 =>
    rintro W hH
    go_simp
    with_reducible rfl
  simp only [Act.put]
  try simp only [List.getElem_toArray, List.getElem_cons_succ, List.getElem_cons_zero]
  try simp only [List.setIfInBounds_toArray, List.set_cons_succ, List.set_cons_zero]
  refine wpAnyH_ready (rs := [11]) (by kernel_rfl) (by simp) ?_
  refine AllReadyH.cons rfl (fun K' hK' => ?_) AllReadyH.nil
  refine wp_store_mid 32 (.tmp 6) (.tmp 54) rfl (w.heap.size + 1 + 1 + 1) 0 T2 (by kernel_rfl) (by kernel_rfl) HTA.out ITs.out H1T.out ?_
  simp only [Act.put]
  refine hK'.out _ _ ⟨hS.1.sets_far _ _ _ (by omega), hS.2.1.sets_far _ _ _ (by omega), hS.2.2.sets_far _ _ _ (by omega)⟩ (fun hS => ?_)
  clear hK' K'
  refine wpAnyH_ready (rs := [12]) (by kernel_rfl) (by simp) ?_
  refine AllReadyH.cons rfl (fun K' hK' => ?_) AllReadyH.nil
  refine wp_store_mid 36 (.tmp 7) (.tmp 55) rfl (w.heap.size + 1 + 1 + 1 + 1) 0 S2 (by kernel_rfl) (by kernel_rfl) HTB.out ISs.out H1S.out ?_
  simp only [Act.put]
  refine hK'.out _ _ ⟨hS.1.sets_far _ _ _ (by omega), hS.2.1.sets_far _ _ _ (by omega), hS.2.2.sets_far _ _ _ (by omega)⟩ (fun hS => ?_)
  clear hK' K'
  refine wpAnyH_take (i := 13) (v := ?v13_12) rfl (by kernel_rfl) (by kernel_rfl) (by kernel_rfl) (fun _ _ _ h => h) (Or.inl ⟨by rfl, ?y13_12⟩) hS ?r13_12
  case y13_12 =>
    rintro W hH
    go_simp
    with_reducible rfl
  simp only [Act.put]
  try simp only [List.getElem_toArray, List.getElem_cons_succ, List.getElem_cons_zero]
  try simp only [List.setIfInBounds_toArray, List.set_cons_succ, List.set_cons_zero]
  refine wpAnyH_done (by kernel_rfl) ?_ _
  go_wp2_with fail
  refine bodyPost_ret (results_cells2_tmp (t1 := 32) (t2 := 36) rfl _ _ _ _ _ _ _ _ _ _ (by kernel_rfl) (by kernel_rfl) rfl HFA.out HFB.out Tryd.underlying32 Tryd.underlying36 (by kernel_rfl) (by kernel_rfl) ITs.out ISs.out) rfl ?_
  exact ⟨by rw [HT2.out, HS2.out]; rfl, HBF.out⟩
end Go.Proofs.YtjcpgnachkhjaaaDoor
