/- fixq.Add, ledger.sum. -/
import Derived.Test.YtnnknnaimabehaaDoorLedPlain
import Derived.Test.YtnnknnaimabehaaDoorRows
import Derived.Lib.Hide
import Derived.WalkLawsBesides
import Derived.WalkSpells
import Derived.Deep.Cut
import Derived.OrdersHeld
import Derived.Deep.RegionHeld
import Derived.Deep.CutBlock
namespace Go.Proofs.YtnnknnaimabehaaDoor
open Go.RowKit
attribute [local go_sem] Oper.semAt_some
set_option linter.unusedVariables false
set_option linter.unusedSimpArgs false

theorem add_any (a b : Int) (ha : amt a) (hb : amt b) (w : World) : Calls Tryd.prog 52 #[.int .i64 a, .int .i64 b] w fun e w' => e = .returned (.tuple (if a + b = 9223372036854775808 then #[.int .i64 0, .int .i64 10] else #[.int .i64 (a + b), .int .i64 0])) ∧ w' = w := by
  unfold amt at ha hb
  by_cases h : a + b = 9223372036854775808
  · rw [if_pos h]
    have h1 : a = 4611686018427387904 := by omega
    have h2 : b = 4611686018427387904 := by omega
    subst h1 h2
    have e : wrap64 9223372036854775808 = -9223372036854775808 := by unfold wrap64; omega
    go_in
    go_wp2
    go_ret2
    exact ⟨rfl, rfl⟩
  · rw [if_neg h]
    by_cases hb0 : 0 < b
    · have h1 : decide (a < a + b) = true := by simp; omega
      go_in
      go_wp2
      go_ret2
      exact ⟨rfl, rfl⟩
    · have h1 : decide (a < a + b) = false := by simp; omega
      have h2 : decide (0 < b) = false := by simp; omega
      go_in
      go_wp2
      go_ret2
      exact ⟨rfl, rfl⟩
theorem sum_any (a b : Int) (ha : amt a) (hb : amt b) (w : World) : Calls Tryd.prog 50 #[.int .i64 a, .int .i64 b] w fun e w' => e = .returned (.tuple #[.int .i64 (lsumP a b).1, .int .i64 (lsumP a b).2]) ∧ w' = w := by
  have HA := Lib.hid (add_any a b ha hb w)
  unfold amt at ha hb
  by_cases h : a + b = 9223372036854775808
  · have hs : lsumP a b = (0, 10) := by unfold lsumP; rw [if_neg (by omega)]
    rw [hs]
    rw [if_pos h] at HA
    clear h hs
    go_in
    go_wp2_with (go_at_call 52; refine HA.out.mono ?_; rintro e w' ⟨rfl, rfl⟩)
    go_ret2
    exact ⟨rfl, rfl⟩
  · rw [if_neg h] at HA
    by_cases h1 : 4611686018427387904 < a + b
    · have hs : lsumP a b = (0, 10) := by unfold lsumP; rw [if_neg (by omega)]
      rw [hs]
      clear h hs
      go_in
      go_wp2_with (go_at_call 52; refine HA.out.mono ?_; rintro e w' ⟨rfl, rfl⟩)
      go_ret2
      exact ⟨rfl, rfl⟩
    · by_cases h2 : a + b < -4611686018427387904
      · have hs : lsumP a b = (0, 10) := by unfold lsumP; rw [if_neg (by omega)]
        rw [hs]
        have h3 : a + b ≤ 4611686018427387904 := by omega
        clear h hs h1
        go_in
        go_wp2_with (go_at_call 52; refine HA.out.mono ?_; rintro e w' ⟨rfl, rfl⟩)
        go_ret2
        exact ⟨rfl, rfl⟩
      · have hs : lsumP a b = (a + b, 0) := by unfold lsumP; rw [if_pos (by omega)]
        rw [hs]
        have h3 : a + b ≤ 4611686018427387904 := by omega
        have h4 : -4611686018427387904 ≤ a + b := by omega
        clear h hs h1 h2
        go_in
        go_wp2_with (go_at_call 52; refine HA.out.mono ?_; rintro e w' ⟨rfl, rfl⟩)
        go_ret2
        exact ⟨rfl, rfl⟩
theorem lsumP_in (a b : Int) : amt (lsumP a b).1 ∧ 0 ≤ (lsumP a b).2 ∧ (lsumP a b).2 ≤ 10 := by
  unfold lsumP amt
  split <;> simp <;> omega
end Go.Proofs.YtnnknnaimabehaaDoor
namespace Go.Proofs.YtnnknnaimabehaaDoor
open Go.RowKit
attribute [local go_sem] Oper.semAt_some
set_option linter.unusedVariables false
set_option linter.unusedSimpArgs false
set_option maxRecDepth 100000

theorem run_max4 {P : Program} (w : World) (ats : Array TypeId) (ty : TypeId) (a b c d : Int) : (Builtin.max_ ats ty #[.int .i64 a, .int .i64 b, .int .i64 c, .int .i64 d]).run P w = .ok (.int .i64 (max4 a b c d)) w := by
  have hm : ∀ x y : Int, (if y > x then y else x) = max x y := fun x y => by
    by_cases h : y > x
    · rw [if_pos h]; omega
    · rw [if_neg h]; omega
  simp only [Builtin.max_, List.foldlM, Builtin.max2, Sem.run_bind, Sem.run_pure, Result.andThen_ok, hm, max4]
attribute [local go_sem] run_max4
theorem results_cells2_tmp {fn : Func} {p q u : Tmp} {ty ty2 t1 t2 : TypeId} (h : fn.results = #[.cell p ty, .cell q ty2, .tmp u]) (tmps : Array Value) (P : Program) (w : World) (g1 g2 : Nat) (c1 c2 : Array Value) (v : Value) (d1 d2 : TypeDesc)
    (hp : tmps.getD p undef = .pointer (some ⟨g1, 0, none⟩)) (hq : tmps.getD q undef = .pointer (some ⟨g2, 0, none⟩)) (hv : tmps.getD u undef = v) (h1 : Held w g1 t1 c1) (h2 : Held w g2 t2 c2)
    (hu1 : P.underlying ty = some d1) (hu2 : P.underlying ty2 = some d2) (hd1 : d1.isRow = true) (hd2 : d2.isRow = true)
    (hi1 : (P.info? ty).map (·.size) = some c1.size) (hi2 : (P.info? ty2).map (·.size) = some c2.size) : (results fn tmps).run P w = .ok (.tuple #[.agg c1, .agg c2, v]) w := by
  have hp' : tmps[p]?.getD undef = .pointer (some ⟨g1, 0, none⟩) := by simpa using hp
  have hq' : tmps[q]?.getD undef = .pointer (some ⟨g2, 0, none⟩) := by simpa using hq
  have hv' : tmps[u]?.getD undef = v := by simpa using hv
  have l1 := run_loadVar_mid w g1 0 ty c1.toList d1 h1.range hu1 hd1 (by simpa using hi1)
  have l2 := run_loadVar_mid w g2 0 ty2 c2.toList d2 h2.range hu2 hd2 (by simpa using hi2)
  simp [results, h, hp', hq', hv', asAddr, l1, l2]
theorem results_cell_held {fn : Func} {p : Tmp} {ty t1 : TypeId} (h : fn.results = #[.cell p ty]) (tmps : Array Value) (P : Program) (w : World) (g1 : Nat) (c1 : Array Value) (d1 : TypeDesc)
    (hp : tmps.getD p undef = .pointer (some ⟨g1, 0, none⟩)) (h1 : Held w g1 t1 c1) (hu1 : P.underlying ty = some d1) (hd1 : d1.isRow = true) (hi1 : (P.info? ty).map (·.size) = some c1.size) : (results fn tmps).run P w = .ok (.agg c1) w := by
  have hp' : tmps[p]?.getD undef = .pointer (some ⟨g1, 0, none⟩) := by simpa using hp
  have l1 := run_loadVar_mid w g1 0 ty c1.toList d1 h1.range hu1 hd1 (by simpa using hi1)
  simp [results, h, hp', asAddr, l1]
theorem sum_info : (Tryd.prog.info? 65).map (fun i => (i.zero, i.size)) = some (some (.agg SumS.zero.arr), 49) := by kernel_rfl
theorem sum_zero (w : World) : (zeroValue 65).run Tryd.prog w = .ok (.agg SumS.zero.arr) w := (zero_of_info sum_info).1 w
theorem alloc_sum (w : World) : (Instr.alloc 65 true (.tuple #[])).run Tryd.prog w = .ok (.pointer (some ⟨w.heap.size, 0, none⟩)) (w.alloc (.cells SumS.zero.arr 65)) := by
  have hz := sum_zero
  generalize SumS.zero.arr = Z at hz ⊢
  simp [Instr.alloc, Sem.run_bind, hz, go_sem]
theorem sum_size : (Tryd.prog.info? 65).map (·.size) = some 49 := (zero_of_info sum_info).2
theorem tot_size : (Tryd.prog.info? 56).map (·.size) = some 3 := by kernel_rfl
theorem sum_one (s : SumS) : s.arr.all (·.oneCell') = true := by simp [SumS.arr, SumS.cells, Ent.cells, Value.oneCell']
theorem tot_one (t : Tot) : t.arr.all (·.oneCell') = true := by simp [Tot.arr, Tot.cells, Value.oneCell']
theorem sum_cells {W : World} {B : Nat} {t : TypeId} {s : SumS} (h : Held W B t s.arr) :
    W.cell? ⟨B, 0, none⟩ = some (.int .i64 s.energy) ∧ W.cell? ⟨B, 1, none⟩ = some (.int .i64 s.cost) ∧ W.cell? ⟨B, 2, none⟩ = some (.int .i64 s.intervals) ∧ W.cell? ⟨B, 3, none⟩ = some (.int .i64 s.flagged) ∧ W.cell? ⟨B, 4, none⟩ = some (.int .i64 s.suspects) ∧
    W.cell? ⟨B, 5, none⟩ = some (.int .i64 s.replaced) ∧ W.cell? ⟨B, 6, none⟩ = some (.int .i64 s.corrected) := by
  refine ⟨(h.cell 0).trans ?_, (h.cell 1).trans ?_, (h.cell 2).trans ?_, (h.cell 3).trans ?_, (h.cell 4).trans ?_, (h.cell 5).trans ?_, (h.cell 6).trans ?_⟩ <;> simp [SumS.arr, SumS.cells]
theorem tot_cells {W : World} {B : Nat} {u : TypeId} {t : Tot} (h : Held W B u t.arr) : W.cell? ⟨B, 0, none⟩ = some (.int .i64 t.energy) ∧ W.cell? ⟨B, 1, none⟩ = some (.int .i64 t.cost) ∧ W.cell? ⟨B, 2, none⟩ = some (.int .i64 t.many) :=
  ⟨h.cell 0, h.cell 1, h.cell 2⟩

set_option maxHeartbeats 4000000 in
theorem amounts_any (K : Int) (hK : K < 4611686018427387904) (t : Tot) (s : SumS) (x : Ent) (ht : t.ok K) (hs : s.ok K) (hx1 : amt x.energy) (hx2 : amt x.cost) (w : World) :
    Calls Tryd.prog 42 #[.agg t.arr, .agg s.arr, .agg x.arr] w fun e w' => e = .returned (.tuple #[.agg (amountsP t s x).1.arr, .agg (amountsP t s x).2.1.arr, .int .i64 (amountsP t s x).2.2]) ∧ Below w.heap.size w w' := by
  obtain ⟨T, hT⟩ : ∃ T, t.arr = T := ⟨_, rfl⟩
  obtain ⟨S, hS⟩ : ∃ S, s.arr = S := ⟨_, rfl⟩
  obtain ⟨X, hX⟩ : ∃ X, x.arr = X := ⟨_, rfl⟩
  rw [hT, hS, hX]
  have HT := Lib.hid hT
  have HS := Lib.hid hS
  have HX := Lib.hid hX
  have HA := Lib.hid alloc_sum
  clear hT hS hX
  go_in
  go_upto_region 2 with (with_reducible refine wpList_alloc_at (dst := some 7) 65 _ _ (by kernel_rfl) (HA.out _) ?_; simp only [World.size_alloc, Act.put, List.setIfInBounds_toArray, List.set_cons_succ, List.set_cons_zero])
  have hE0 : Held ((((((w.alloc (.cells T 56)).alloc (.cells S 65)).alloc (.cells X 63)).alloc (.cells #[.int .i64 0, .int .i64 0, .int .i64 0] 56)).alloc (.cells SumS.zero.arr 65)).alloc (.cells #[.int .i64 0, .int .i64 0, .int .i64 0, .int .i64 0] 120)) (w.heap.size + 1 + 1 + 1 + 1 + 1) 120 #[.int .i64 0, .int .i64 0, .int .i64 0, .int .i64 0] := Held.new_at (by simp)
  have hB0 : Held (((((w.alloc (.cells T 56)).alloc (.cells S 65)).alloc (.cells X 63)).alloc (.cells #[.int .i64 0, .int .i64 0, .int .i64 0] 56)).alloc (.cells SumS.zero.arr 65)) (w.heap.size + 1 + 1 + 1 + 1) 65 SumS.zero.arr := Held.new_at (by simp)
  have hA0 : Held ((((w.alloc (.cells T 56)).alloc (.cells S 65)).alloc (.cells X 63)).alloc (.cells #[.int .i64 0, .int .i64 0, .int .i64 0] 56)) (w.heap.size + 1 + 1 + 1) 56 #[.int .i64 0, .int .i64 0, .int .i64 0] := Held.new_at (by simp)
  have hX0 : Held (((w.alloc (.cells T 56)).alloc (.cells S 65)).alloc (.cells X 63)) (w.heap.size + 1 + 1) 63 X := Held.new_at (by simp)
  have hS0 : Held ((w.alloc (.cells T 56)).alloc (.cells S 65)) (w.heap.size + 1) 65 S := Held.new_at (by simp)
  have hT0 : Held (w.alloc (.cells T 56)) w.heap.size 56 T := Held.new w _ _
  have hb0 : Below w.heap.size w ((((((w.alloc (.cells T 56)).alloc (.cells S 65)).alloc (.cells X 63)).alloc (.cells #[.int .i64 0, .int .i64 0, .int .i64 0] 56)).alloc (.cells SumS.zero.arr 65)).alloc (.cells #[.int .i64 0, .int .i64 0, .int .i64 0, .int .i64 0] 120)) :=
    ((((((Below.refl _ _).alloc (Nat.le_refl _) _).alloc (by simp) _).alloc (by simp; omega) _).alloc (by simp; omega) _).alloc (by simp; omega) _).alloc (by simp; omega) _
  replace hB0 := hB0.alloc (.cells #[.int .i64 0, .int .i64 0, .int .i64 0, .int .i64 0] 120)
  replace hA0 := (hA0.alloc (.cells SumS.zero.arr 65)).alloc (.cells #[.int .i64 0, .int .i64 0, .int .i64 0, .int .i64 0] 120)
  replace hX0 := ((hX0.alloc (.cells #[.int .i64 0, .int .i64 0, .int .i64 0] 56)).alloc (.cells SumS.zero.arr 65)).alloc (.cells #[.int .i64 0, .int .i64 0, .int .i64 0, .int .i64 0] 120)
  replace hS0 := (((hS0.alloc (.cells X 63)).alloc (.cells #[.int .i64 0, .int .i64 0, .int .i64 0] 56)).alloc (.cells SumS.zero.arr 65)).alloc (.cells #[.int .i64 0, .int .i64 0, .int .i64 0, .int .i64 0] 120)
  replace hT0 := ((((hT0.alloc (.cells S 65)).alloc (.cells X 63)).alloc (.cells #[.int .i64 0, .int .i64 0, .int .i64 0] 56)).alloc (.cells SumS.zero.arr 65)).alloc (.cells #[.int .i64 0, .int .i64 0, .int .i64 0, .int .i64 0] 120)
  generalize ((((((w.alloc (.cells T 56)).alloc (.cells S 65)).alloc (.cells X 63)).alloc (.cells #[.int .i64 0, .int .i64 0, .int .i64 0] 56)).alloc (.cells SumS.zero.arr 65)).alloc (.cells #[.int .i64 0, .int .i64 0, .int .i64 0, .int .i64 0] 120)) = W1 at hE0 hB0 hA0 hX0 hS0 hT0 hb0 ⊢
  have tc := tot_cells (t := t) (by rw [HT.out]; exact hT0)
  have sc := sum_cells (s := s) (by rw [HS.out]; exact hS0)
  have xc := ent_cells (e := x) (by rw [HX.out]; exact hX0)
  obtain ⟨tc0, tc1, tc2⟩ := tc
  obtain ⟨sc0, sc1, _⟩ := sc
  obtain ⟨_, _, _, xc3, _, _, xc6, _⟩ := xc
  have ec0 : W1.cell? ⟨w.heap.size + 1 + 1 + 1 + 1 + 1, 0, none⟩ = some (.int .i64 0) := hE0.cell 0
  have ec1 : W1.cell? ⟨w.heap.size + 1 + 1 + 1 + 1 + 1, 1, none⟩ = some (.int .i64 0) := hE0.cell 1
  have ec2 : W1.cell? ⟨w.heap.size + 1 + 1 + 1 + 1 + 1, 2, none⟩ = some (.int .i64 0) := hE0.cell 2
  have ec3 : W1.cell? ⟨w.heap.size + 1 + 1 + 1 + 1 + 1, 3, none⟩ = some (.int .i64 0) := hE0.cell 3
  have tf0 := hT0.frozen 0
  have tf1 := hT0.frozen 1
  have tf2 := hT0.frozen 2
  have sf0 := hS0.frozen 0
  have sf1 := hS0.frozen 1
  have ef0 := hE0.frozen 0
  have ef1 := hE0.frozen 1
  have ef2 := hE0.frozen 2
  have ef3 := hE0.frozen 3
  obtain ⟨ht1, ht2, ht3, ht4⟩ := ht
  have hsh := hs.hash
  obtain ⟨hs1, hs2, _⟩ := hs
  have C1 := Lib.hid (fun v => sum_any t.energy x.energy ht1 hx1 v)
  have C2 := Lib.hid (fun v => sum_any t.cost x.cost ht2 hx2 v)
  have C3 := Lib.hid (fun v => sum_any s.energy x.energy hs1 hx1 v)
  have C4 := Lib.hid (fun v => sum_any s.cost x.cost hs2 hx2 v)
  clear ht1 ht2 hs1 hs2 hx1 hx2
  have HE0 := Lib.hid hE0
  have HB0 := Lib.hid hB0
  have HA0 := Lib.hid hA0
  have HS0 := Lib.hid hS0
  have HT0 := Lib.hid hT0
  have HBl := Lib.hid hb0
  clear hE0 hB0 hA0 hX0 hS0 hT0 hb0
  go_upto_region 7 with (go_at_call 50; first | (with_reducible refine (C1.out _).mono ?_; rintro e w' ⟨rfl, rfl⟩) | (with_reducible refine (C2.out _).mono ?_; rintro e w' ⟨rfl, rfl⟩) | (with_reducible refine (C3.out _).mono ?_; rintro e w' ⟨rfl, rfl⟩) | (with_reducible refine (C4.out _).mono ?_; rintro e w' ⟨rfl, rfl⟩))
  obtain ⟨T2, hT2⟩ : ∃ A, (amountsP t s x).1.arr = A := ⟨_, rfl⟩
  obtain ⟨S2, hS2⟩ : ∃ A, (amountsP t s x).2.1.arr = A := ⟨_, rfl⟩
  have hTz : T2.size = 3 := by rw [← hT2]; rfl
  have hSz : S2.size = 49 := by rw [← hS2]; exact SumS.arr_size _ hsh
  have h1T : T2.all (·.oneCell') = true := by rw [← hT2]; exact tot_one _
  have h1S : S2.all (·.oneCell') = true := by rw [← hS2]; exact sum_one _
  obtain ⟨E2, hE2⟩ : ∃ A : Array Value, #[Value.int .i64 (lsumP t.energy x.energy).2, .int .i64 (lsumP t.cost x.cost).2, .int .i64 (lsumP s.energy x.energy).2, .int .i64 (lsumP s.cost x.cost).2] = A := ⟨_, rfl⟩
  have keyT : ∀ W2 : World, Held W2 w.heap.size 56 (((T.setIfInBounds 0 (.int .i64 (lsumP t.energy x.energy).1)).setIfInBounds 1 (.int .i64 (lsumP t.cost x.cost).1)).setIfInBounds 2 (.int .i64 (t.many + 1))) → Held W2 w.heap.size 56 T2 := fun W2 h => by
    rw [← hT2]; rw [← HT.out] at h; simpa [Tot.arr, Tot.cells, amountsP] using h
  have keyS : ∀ W2 : World, Held W2 (w.heap.size + 1) 65 ((S.setIfInBounds 0 (.int .i64 (lsumP s.energy x.energy).1)).setIfInBounds 1 (.int .i64 (lsumP s.cost x.cost).1)) → Held W2 (w.heap.size + 1) 65 S2 := fun W2 h => by
    rw [← hS2]; rw [← HS.out] at h; simpa [SumS.arr, SumS.cells, amountsP] using h
  obtain ⟨W2, hW2⟩ : ∃ W, ((((((((w'.setCell ⟨w.heap.size, 0, none⟩ (.int .i64 (lsumP t.energy x.energy).1)).setCell ⟨w.heap.size + 1 + 1 + 1 + 1 + 1, 0, none⟩ (.int .i64 (lsumP t.energy x.energy).2)).setCell ⟨w.heap.size, 1, none⟩ (.int .i64 (lsumP t.cost x.cost).1)).setCell ⟨w.heap.size + 1 + 1 + 1 + 1 + 1, 1, none⟩ (.int .i64 (lsumP t.cost x.cost).2)).setCell ⟨w.heap.size + 1, 0, none⟩ (.int .i64 (lsumP s.energy x.energy).1)).setCell ⟨w.heap.size + 1 + 1 + 1 + 1 + 1, 2, none⟩ (.int .i64 (lsumP s.energy x.energy).2)).setCell ⟨w.heap.size + 1, 1, none⟩ (.int .i64 (lsumP s.cost x.cost).1)).setCell ⟨w.heap.size + 1 + 1 + 1 + 1 + 1, 3, none⟩ (.int .i64 (lsumP s.cost x.cost).2)).setCell ⟨w.heap.size, 2, none⟩ (.int .i64 (t.many + 1)) = W := ⟨_, rfl⟩
  have hT9 := (((((((((HT0.out.set 0 (.int .i64 (lsumP t.energy x.energy).1)).far (p := ⟨w.heap.size + 1 + 1 + 1 + 1 + 1, 0, none⟩) (by show w.heap.size ≠ w.heap.size + 1 + 1 + 1 + 1 + 1; omega) (.int .i64 (lsumP t.energy x.energy).2)).set 1 (.int .i64 (lsumP t.cost x.cost).1)).far (p := ⟨w.heap.size + 1 + 1 + 1 + 1 + 1, 1, none⟩) (by show w.heap.size ≠ w.heap.size + 1 + 1 + 1 + 1 + 1; omega) (.int .i64 (lsumP t.cost x.cost).2)).far (p := ⟨w.heap.size + 1, 0, none⟩) (by show w.heap.size ≠ w.heap.size + 1; omega) (.int .i64 (lsumP s.energy x.energy).1)).far (p := ⟨w.heap.size + 1 + 1 + 1 + 1 + 1, 2, none⟩) (by show w.heap.size ≠ w.heap.size + 1 + 1 + 1 + 1 + 1; omega) (.int .i64 (lsumP s.energy x.energy).2)).far (p := ⟨w.heap.size + 1, 1, none⟩) (by show w.heap.size ≠ w.heap.size + 1; omega) (.int .i64 (lsumP s.cost x.cost).1)).far (p := ⟨w.heap.size + 1 + 1 + 1 + 1 + 1, 3, none⟩) (by show w.heap.size ≠ w.heap.size + 1 + 1 + 1 + 1 + 1; omega) (.int .i64 (lsumP s.cost x.cost).2)).set 2 (.int .i64 (t.many + 1)))
  have hS9 := (((((((((HS0.out.far (p := ⟨w.heap.size, 0, none⟩) (by show w.heap.size + 1 ≠ w.heap.size; omega) (.int .i64 (lsumP t.energy x.energy).1)).far (p := ⟨w.heap.size + 1 + 1 + 1 + 1 + 1, 0, none⟩) (by show w.heap.size + 1 ≠ w.heap.size + 1 + 1 + 1 + 1 + 1; omega) (.int .i64 (lsumP t.energy x.energy).2)).far (p := ⟨w.heap.size, 1, none⟩) (by show w.heap.size + 1 ≠ w.heap.size; omega) (.int .i64 (lsumP t.cost x.cost).1)).far (p := ⟨w.heap.size + 1 + 1 + 1 + 1 + 1, 1, none⟩) (by show w.heap.size + 1 ≠ w.heap.size + 1 + 1 + 1 + 1 + 1; omega) (.int .i64 (lsumP t.cost x.cost).2)).set 0 (.int .i64 (lsumP s.energy x.energy).1)).far (p := ⟨w.heap.size + 1 + 1 + 1 + 1 + 1, 2, none⟩) (by show w.heap.size + 1 ≠ w.heap.size + 1 + 1 + 1 + 1 + 1; omega) (.int .i64 (lsumP s.energy x.energy).2)).set 1 (.int .i64 (lsumP s.cost x.cost).1)).far (p := ⟨w.heap.size + 1 + 1 + 1 + 1 + 1, 3, none⟩) (by show w.heap.size + 1 ≠ w.heap.size + 1 + 1 + 1 + 1 + 1; omega) (.int .i64 (lsumP s.cost x.cost).2)).far (p := ⟨w.heap.size, 2, none⟩) (by show w.heap.size + 1 ≠ w.heap.size; omega) (.int .i64 (t.many + 1)))
  have hA9 := (((((((((HA0.out.far (p := ⟨w.heap.size, 0, none⟩) (by show w.heap.size + 1 + 1 + 1 ≠ w.heap.size; omega) (.int .i64 (lsumP t.energy x.energy).1)).far (p := ⟨w.heap.size + 1 + 1 + 1 + 1 + 1, 0, none⟩) (by show w.heap.size + 1 + 1 + 1 ≠ w.heap.size + 1 + 1 + 1 + 1 + 1; omega) (.int .i64 (lsumP t.energy x.energy).2)).far (p := ⟨w.heap.size, 1, none⟩) (by show w.heap.size + 1 + 1 + 1 ≠ w.heap.size; omega) (.int .i64 (lsumP t.cost x.cost).1)).far (p := ⟨w.heap.size + 1 + 1 + 1 + 1 + 1, 1, none⟩) (by show w.heap.size + 1 + 1 + 1 ≠ w.heap.size + 1 + 1 + 1 + 1 + 1; omega) (.int .i64 (lsumP t.cost x.cost).2)).far (p := ⟨w.heap.size + 1, 0, none⟩) (by show w.heap.size + 1 + 1 + 1 ≠ w.heap.size + 1; omega) (.int .i64 (lsumP s.energy x.energy).1)).far (p := ⟨w.heap.size + 1 + 1 + 1 + 1 + 1, 2, none⟩) (by show w.heap.size + 1 + 1 + 1 ≠ w.heap.size + 1 + 1 + 1 + 1 + 1; omega) (.int .i64 (lsumP s.energy x.energy).2)).far (p := ⟨w.heap.size + 1, 1, none⟩) (by show w.heap.size + 1 + 1 + 1 ≠ w.heap.size + 1; omega) (.int .i64 (lsumP s.cost x.cost).1)).far (p := ⟨w.heap.size + 1 + 1 + 1 + 1 + 1, 3, none⟩) (by show w.heap.size + 1 + 1 + 1 ≠ w.heap.size + 1 + 1 + 1 + 1 + 1; omega) (.int .i64 (lsumP s.cost x.cost).2)).far (p := ⟨w.heap.size, 2, none⟩) (by show w.heap.size + 1 + 1 + 1 ≠ w.heap.size; omega) (.int .i64 (t.many + 1)))
  have hB9 := (((((((((HB0.out.far (p := ⟨w.heap.size, 0, none⟩) (by show w.heap.size + 1 + 1 + 1 + 1 ≠ w.heap.size; omega) (.int .i64 (lsumP t.energy x.energy).1)).far (p := ⟨w.heap.size + 1 + 1 + 1 + 1 + 1, 0, none⟩) (by show w.heap.size + 1 + 1 + 1 + 1 ≠ w.heap.size + 1 + 1 + 1 + 1 + 1; omega) (.int .i64 (lsumP t.energy x.energy).2)).far (p := ⟨w.heap.size, 1, none⟩) (by show w.heap.size + 1 + 1 + 1 + 1 ≠ w.heap.size; omega) (.int .i64 (lsumP t.cost x.cost).1)).far (p := ⟨w.heap.size + 1 + 1 + 1 + 1 + 1, 1, none⟩) (by show w.heap.size + 1 + 1 + 1 + 1 ≠ w.heap.size + 1 + 1 + 1 + 1 + 1; omega) (.int .i64 (lsumP t.cost x.cost).2)).far (p := ⟨w.heap.size + 1, 0, none⟩) (by show w.heap.size + 1 + 1 + 1 + 1 ≠ w.heap.size + 1; omega) (.int .i64 (lsumP s.energy x.energy).1)).far (p := ⟨w.heap.size + 1 + 1 + 1 + 1 + 1, 2, none⟩) (by show w.heap.size + 1 + 1 + 1 + 1 ≠ w.heap.size + 1 + 1 + 1 + 1 + 1; omega) (.int .i64 (lsumP s.energy x.energy).2)).far (p := ⟨w.heap.size + 1, 1, none⟩) (by show w.heap.size + 1 + 1 + 1 + 1 ≠ w.heap.size + 1; omega) (.int .i64 (lsumP s.cost x.cost).1)).far (p := ⟨w.heap.size + 1 + 1 + 1 + 1 + 1, 3, none⟩) (by show w.heap.size + 1 + 1 + 1 + 1 ≠ w.heap.size + 1 + 1 + 1 + 1 + 1; omega) (.int .i64 (lsumP s.cost x.cost).2)).far (p := ⟨w.heap.size, 2, none⟩) (by show w.heap.size + 1 + 1 + 1 + 1 ≠ w.heap.size; omega) (.int .i64 (t.many + 1)))
  have hE9 := (((((((((HE0.out.far (p := ⟨w.heap.size, 0, none⟩) (by show w.heap.size + 1 + 1 + 1 + 1 + 1 ≠ w.heap.size; omega) (.int .i64 (lsumP t.energy x.energy).1)).set 0 (.int .i64 (lsumP t.energy x.energy).2)).far (p := ⟨w.heap.size, 1, none⟩) (by show w.heap.size + 1 + 1 + 1 + 1 + 1 ≠ w.heap.size; omega) (.int .i64 (lsumP t.cost x.cost).1)).set 1 (.int .i64 (lsumP t.cost x.cost).2)).far (p := ⟨w.heap.size + 1, 0, none⟩) (by show w.heap.size + 1 + 1 + 1 + 1 + 1 ≠ w.heap.size + 1; omega) (.int .i64 (lsumP s.energy x.energy).1)).set 2 (.int .i64 (lsumP s.energy x.energy).2)).far (p := ⟨w.heap.size + 1, 1, none⟩) (by show w.heap.size + 1 + 1 + 1 + 1 + 1 ≠ w.heap.size + 1; omega) (.int .i64 (lsumP s.cost x.cost).1)).set 3 (.int .i64 (lsumP s.cost x.cost).2)).far (p := ⟨w.heap.size, 2, none⟩) (by show w.heap.size + 1 + 1 + 1 + 1 + 1 ≠ w.heap.size; omega) (.int .i64 (t.many + 1)))
  have hb9 := (((((((((HBl.out.setCell (p := ⟨w.heap.size, 0, none⟩) (by show w.heap.size ≤ w.heap.size; omega) (.int .i64 (lsumP t.energy x.energy).1)).setCell (p := ⟨w.heap.size + 1 + 1 + 1 + 1 + 1, 0, none⟩) (by show w.heap.size ≤ w.heap.size + 1 + 1 + 1 + 1 + 1; omega) (.int .i64 (lsumP t.energy x.energy).2)).setCell (p := ⟨w.heap.size, 1, none⟩) (by show w.heap.size ≤ w.heap.size; omega) (.int .i64 (lsumP t.cost x.cost).1)).setCell (p := ⟨w.heap.size + 1 + 1 + 1 + 1 + 1, 1, none⟩) (by show w.heap.size ≤ w.heap.size + 1 + 1 + 1 + 1 + 1; omega) (.int .i64 (lsumP t.cost x.cost).2)).setCell (p := ⟨w.heap.size + 1, 0, none⟩) (by show w.heap.size ≤ w.heap.size + 1; omega) (.int .i64 (lsumP s.energy x.energy).1)).setCell (p := ⟨w.heap.size + 1 + 1 + 1 + 1 + 1, 2, none⟩) (by show w.heap.size ≤ w.heap.size + 1 + 1 + 1 + 1 + 1; omega) (.int .i64 (lsumP s.energy x.energy).2)).setCell (p := ⟨w.heap.size + 1, 1, none⟩) (by show w.heap.size ≤ w.heap.size + 1; omega) (.int .i64 (lsumP s.cost x.cost).1)).setCell (p := ⟨w.heap.size + 1 + 1 + 1 + 1 + 1, 3, none⟩) (by show w.heap.size ≤ w.heap.size + 1 + 1 + 1 + 1 + 1; omega) (.int .i64 (lsumP s.cost x.cost).2)).setCell (p := ⟨w.heap.size, 2, none⟩) (by show w.heap.size ≤ w.heap.size; omega) (.int .i64 (t.many + 1)))
  rw [hW2] at hT9 hS9 hA9 hB9 hE9 hb9 ⊢
  clear hW2
  replace hT9 := keyT _ hT9
  replace hS9 := keyS _ hS9
  replace hE9 : Held W2 (w.heap.size + 1 + 1 + 1 + 1 + 1) 120 E2 := by rw [← hE2]; simpa using hE9
  have hw9 : W2.heap.size = W2.drew.heap.size := rfl
  obtain ⟨wd, hwd⟩ : ∃ W, W2.drew = W := ⟨_, rfl⟩
  have hTd : Held wd w.heap.size 56 T2 := by rw [← hwd]; exact hT9
  have hSd : Held wd (w.heap.size + 1) 65 S2 := by rw [← hwd]; exact hS9
  have hEd : Held wd (w.heap.size + 1 + 1 + 1 + 1 + 1) 120 E2 := by rw [← hwd]; exact hE9
  have hAd : Held wd (w.heap.size + 1 + 1 + 1) 56 #[.int .i64 0, .int .i64 0, .int .i64 0] := by rw [← hwd]; exact hA9
  have hBd : Held wd (w.heap.size + 1 + 1 + 1 + 1) 65 SumS.zero.arr := by rw [← hwd]; exact hB9
  have hbd : Below w.heap.size w wd := by rw [← hwd]; exact hb9.drew
  have HFA := Lib.hid ((hAd.whole (cs := T2) (by rw [hTz]; rfl)).sets_far (w.heap.size + 1 + 1 + 1 + 1) 0 S2.toList (by omega))
  have HFB := Lib.hid ((hBd.sets_far (w.heap.size + 1 + 1 + 1) 0 T2.toList (by omega)).whole (cs := S2) (by rw [hSz]; exact (SumS.arr_size _ rfl).symm))
  have HTA := Lib.hid (hAd.there 0 T2.size (by rw [hTz]; exact Nat.le_refl _))
  have HTB := Lib.hid ((hBd.sets_far (w.heap.size + 1 + 1 + 1) 0 T2.toList (by omega)).there 0 S2.size (by rw [hSz, SumS.arr_size _ rfl]; exact Nat.le_refl _))
  have HBF := Lib.hid (below_setCells S2.toList 0 (below_setCells T2.toList 0 hbd (show w.heap.size ≤ w.heap.size + 1 + 1 + 1 by omega)) (show w.heap.size ≤ w.heap.size + 1 + 1 + 1 + 1 by omega))
  have H1T := Lib.hid h1T
  have H1S := Lib.hid h1S
  have IT : Hid ((Tryd.prog.info? 56).map (·.size) = some T2.toList.length) := Lib.hid (by rw [tot_size, Array.length_toList, hTz])
  have IS : Hid ((Tryd.prog.info? 65).map (·.size) = some S2.toList.length) := Lib.hid (by rw [sum_size, Array.length_toList, hSz])
  have ITs : Hid ((Tryd.prog.info? 56).map (·.size) = some T2.size) := Lib.hid (by rw [tot_size, hTz])
  have ISs : Hid ((Tryd.prog.info? 65).map (·.size) = some S2.size) := Lib.hid (by rw [sum_size, hSz])
  have HT2 := Lib.hid hT2
  have HS2 := Lib.hid hS2
  have HE2 := Lib.hid hE2
  have hS : Held wd w.heap.size 56 T2 ∧ Held wd (w.heap.size + 1) 65 S2 ∧ Held wd (w.heap.size + 1 + 1 + 1 + 1 + 1) 120 E2 := ⟨hTd, hSd, hEd⟩
  clear hT9 hS9 hA9 hB9 hE9 hb9 hTd hSd hEd hAd hBd hbd keyT keyS hT2 hS2 h1T h1S hTz hSz tc0 tc1 tc2 sc0 sc1 xc3 xc6 ec0 ec1 ec2 ec3 tf0 tf1 tf2 sf0 sf1 ef0 ef1 ef2 ef3 C1 C2 C3 C4 HE0 HB0 HA0 HS0 HT0 HBl hw9
  subst hE2
  refine wp_region_held (S := fun W => Held W w.heap.size 56 T2 ∧ Held W (w.heap.size + 1) 65 S2 ∧ Held W (w.heap.size + 1 + 1 + 1 + 1 + 1) 120 #[Value.int .i64 (lsumP t.energy x.energy).2, .int .i64 (lsumP t.cost x.cost).2, .int .i64 (lsumP s.energy x.energy).2, .int .i64 (lsumP s.cost x.cost).2]) (by kernel_rfl) ?_
  change wpAnyH _ _ _ _ _ _ _ _ W2.drew
  rw [hwd]
  clear hwd
  refine wpAnyH_take (i := 0) (v := Value.agg T2) rfl (by kernel_rfl) (by kernel_rfl) (by kernel_rfl) (fun _ _ _ h => h) ?y0_1 hS ?r0_1
  case y0_1 => exact yieldsIf_load_mid (by kernel_rfl) 56 (.tmp 3) rfl (w.heap.size) 0 (by kernel_rfl) T2.toList _ (fun _ h => h.1.range) Tryd.underlying56 (by kernel_rfl) IT.out
  simp only [Act.put]
  try simp only [List.getElem_toArray, List.getElem_cons_zero]
  try simp only [List.setIfInBounds_toArray, List.set_cons_succ, List.set_cons_zero]
  refine wpAnyH_take (i := 1) (v := Value.agg S2) rfl (by kernel_rfl) (by kernel_rfl) (by kernel_rfl) (fun _ _ _ h => h) ?y1_2 hS ?r1_2
  case y1_2 => exact yieldsIf_load_mid (by kernel_rfl) 65 (.tmp 4) rfl (w.heap.size + 1) 0 (by kernel_rfl) S2.toList _ (fun _ h => h.2.1.range) Tryd.underlying65 (by kernel_rfl) IS.out
  simp only [Act.put]
  try simp only [List.getElem_toArray, List.getElem_cons_succ, List.getElem_cons_zero]
  try simp only [List.setIfInBounds_toArray, List.set_cons_succ, List.set_cons_zero]
  refine wpAnyH_take (i := 2) (v := ?v2_3) rfl (by kernel_rfl) (by kernel_rfl) (by kernel_rfl) (fun _ _ _ h => h) (Or.inl ⟨by rfl, ?y2_3⟩) hS ?r2_3
  case y2_3 =>
    rintro W hH
    go_simp
    with_reducible rfl
  simp only [Act.put]
  try simp only [List.getElem_toArray, List.getElem_cons_succ, List.getElem_cons_zero]
  try simp only [List.setIfInBounds_toArray, List.set_cons_succ, List.set_cons_zero]
  refine wpAnyH_take (i := 3) (v := ?v3_4) rfl (by kernel_rfl) (by kernel_rfl) (by kernel_rfl) (fun _ _ _ h => h) (Or.inl ⟨by rfl, ?y3_4⟩) hS ?r3_4
  case y3_4 =>
    rintro W hH
    obtain ⟨_, _, hEE⟩ := hH
    have e0 := hEE.cell 0
    have e1 := hEE.cell 1
    have e2 := hEE.cell 2
    have e3 := hEE.cell 3
    clear hEE
    simp only [List.getElem?_toArray, List.getElem?_cons_zero, List.getElem?_cons_succ] at e0 e1 e2 e3
    go_simp
    with_reducible rfl
  simp only [Act.put]
  try simp only [List.getElem_toArray, List.getElem_cons_succ, List.getElem_cons_zero]
  try simp only [List.setIfInBounds_toArray, List.set_cons_succ, List.set_cons_zero]
  refine wpAnyH_take (i := 4) (v := ?v4_5) rfl (by kernel_rfl) (by kernel_rfl) (by kernel_rfl) (fun _ _ _ h => h) (Or.inl ⟨by rfl, ?y4_5⟩) hS ?r4_5
  case y4_5 =>
    rintro W hH
    go_simp
    with_reducible rfl
  simp only [Act.put]
  try simp only [List.getElem_toArray, List.getElem_cons_succ, List.getElem_cons_zero]
  try simp only [List.setIfInBounds_toArray, List.set_cons_succ, List.set_cons_zero]
  refine wpAnyH_take (i := 5) (v := ?v5_6) rfl (by kernel_rfl) (by kernel_rfl) (by kernel_rfl) (fun _ _ _ h => h) (Or.inl ⟨by rfl, ?y5_6⟩) hS ?r5_6
  case y5_6 =>
    rintro W hH
    obtain ⟨_, _, hEE⟩ := hH
    have e0 := hEE.cell 0
    have e1 := hEE.cell 1
    have e2 := hEE.cell 2
    have e3 := hEE.cell 3
    clear hEE
    simp only [List.getElem?_toArray, List.getElem?_cons_zero, List.getElem?_cons_succ] at e0 e1 e2 e3
    go_simp
    with_reducible rfl
  simp only [Act.put]
  try simp only [List.getElem_toArray, List.getElem_cons_succ, List.getElem_cons_zero]
  try simp only [List.setIfInBounds_toArray, List.set_cons_succ, List.set_cons_zero]
  refine wpAnyH_take (i := 6) (v := ?v6_7) rfl (by kernel_rfl) (by kernel_rfl) (by kernel_rfl) (fun _ _ _ h => h) (Or.inl ⟨by rfl, ?y6_7⟩) hS ?r6_7
  case y6_7 =>
    rintro W hH
    go_simp
    with_reducible rfl
  simp only [Act.put]
  try simp only [List.getElem_toArray, List.getElem_cons_succ, List.getElem_cons_zero]
  try simp only [List.setIfInBounds_toArray, List.set_cons_succ, List.set_cons_zero]
  refine wpAnyH_take (i := 7) (v := ?v7_8) rfl (by kernel_rfl) (by kernel_rfl) (by kernel_rfl) (fun _ _ _ h => h) (Or.inl ⟨by rfl, ?y7_8⟩) hS ?r7_8
  case y7_8 =>
    rintro W hH
    obtain ⟨_, _, hEE⟩ := hH
    have e0 := hEE.cell 0
    have e1 := hEE.cell 1
    have e2 := hEE.cell 2
    have e3 := hEE.cell 3
    clear hEE
    simp only [List.getElem?_toArray, List.getElem?_cons_zero, List.getElem?_cons_succ] at e0 e1 e2 e3
    go_simp
    with_reducible rfl
  simp only [Act.put]
  try simp only [List.getElem_toArray, List.getElem_cons_succ, List.getElem_cons_zero]
  try simp only [List.setIfInBounds_toArray, List.set_cons_succ, List.set_cons_zero]
  refine wpAnyH_take (i := 8) (v := ?v8_9) rfl (by kernel_rfl) (by kernel_rfl) (by kernel_rfl) (fun _ _ _ h => h) (Or.inl ⟨by rfl, ?y8_9⟩) hS ?r8_9
  case y8_9 =>
    rintro W hH
    go_simp
    with_reducible rfl
  simp only [Act.put]
  try simp only [List.getElem_toArray, List.getElem_cons_succ, List.getElem_cons_zero]
  try simp only [List.setIfInBounds_toArray, List.set_cons_succ, List.set_cons_zero]
  refine wpAnyH_take (i := 9) (v := ?v9_10) rfl (by kernel_rfl) (by kernel_rfl) (by kernel_rfl) (fun _ _ _ h => h) (Or.inl ⟨by rfl, ?y9_10⟩) hS ?r9_10
  case y9_10 =>
    rintro W hH
    obtain ⟨_, _, hEE⟩ := hH
    have e0 := hEE.cell 0
    have e1 := hEE.cell 1
    have e2 := hEE.cell 2
    have e3 := hEE.cell 3
    clear hEE
    simp only [List.getElem?_toArray, List.getElem?_cons_zero, List.getElem?_cons_succ] at e0 e1 e2 e3
    go_simp
    with_reducible rfl
  simp only [Act.put]
  try simp only [List.getElem_toArray, List.getElem_cons_succ, List.getElem_cons_zero]
  try simp only [List.setIfInBounds_toArray, List.set_cons_succ, List.set_cons_zero]
  refine wpAnyH_take (i := 10) (v := ?v10_11) rfl (by kernel_rfl) (by kernel_rfl) (by kernel_rfl) (fun _ _ _ h => h) (Or.inl ⟨by rfl, ?y10_11⟩) hS ?r10_11
  case y10_11 =>
    rintro W hH
    go_simp
    with_reducible rfl
  simp only [Act.put]
  try simp only [List.getElem_toArray, List.getElem_cons_succ, List.getElem_cons_zero]
  try simp only [List.setIfInBounds_toArray, List.set_cons_succ, List.set_cons_zero]
  refine wpAnyH_ready (rs := [11]) (by kernel_rfl) (by simp) ?_
  refine AllReadyH.cons rfl (fun K' hK' => ?_) AllReadyH.nil
  refine wp_store_mid 56 (.tmp 6) (.tmp 54) rfl (w.heap.size + 1 + 1 + 1) 0 T2 (by kernel_rfl) (by kernel_rfl) HTA.out ITs.out H1T.out ?_
  simp only [Act.put]
  refine hK'.out _ _ ⟨hS.1.sets_far _ _ _ (by omega), hS.2.1.sets_far _ _ _ (by omega), hS.2.2.sets_far _ _ _ (by omega)⟩ (fun hS => ?_)
  clear hK' K'
  refine wpAnyH_ready (rs := [12]) (by kernel_rfl) (by simp) ?_
  refine AllReadyH.cons rfl (fun K' hK' => ?_) AllReadyH.nil
  refine wp_store_mid 65 (.tmp 7) (.tmp 55) rfl (w.heap.size + 1 + 1 + 1 + 1) 0 S2 (by kernel_rfl) (by kernel_rfl) HTB.out ISs.out H1S.out ?_
  simp only [Act.put]
  refine hK'.out _ _ ⟨hS.1.sets_far _ _ _ (by omega), hS.2.1.sets_far _ _ _ (by omega), hS.2.2.sets_far _ _ _ (by omega)⟩ (fun hS => ?_)
  clear hK' K'
  refine wpAnyH_take (i := 13) (v := ?v13_12) rfl (by kernel_rfl) (by kernel_rfl) (by kernel_rfl) (fun _ _ _ h => h) (Or.inl ⟨by rfl, ?y13_12⟩) hS ?r13_12
  case y13_12 =>
    rintro W hH
    go_simp
    with_reducible rfl
  simp only [Act.put]
  try simp only [List.getElem_toArray, List.getElem_cons_succ, List.getElem_cons_zero]
  try simp only [List.setIfInBounds_toArray, List.set_cons_succ, List.set_cons_zero]
  refine wpAnyH_done (by kernel_rfl) ?_ _
  go_wp2_with fail
  refine bodyPost_ret (results_cells2_tmp (t1 := 56) (t2 := 65) rfl _ _ _ _ _ _ _ _ _ _ (by kernel_rfl) (by kernel_rfl) rfl HFA.out HFB.out Tryd.underlying56 Tryd.underlying65 (by kernel_rfl) (by kernel_rfl) ITs.out ISs.out) rfl ?_
  exact ⟨by rw [HT2.out, HS2.out]; rfl, HBF.out⟩
end Go.Proofs.YtnnknnaimabehaaDoor
namespace Go.Proofs.YtnnknnaimabehaaDoor
open Go.RowKit Go.Shelf
attribute [local go_sem] Oper.semAt_some
set_option linter.unusedVariables false
set_option linter.unusedSimpArgs false
set_option maxRecDepth 100000

theorem build_sum (w : World) : (Instr.build 65 #[]).run Tryd.prog w = .ok (.agg SumS.zero.arr) w := by
  have hz := sum_zero
  have hne : SumS.zero.arr ≠ #[] := by simp [SumS.arr, SumS.cells]
  generalize SumS.zero.arr = Z at hz hne ⊢
  simp [Instr.build, Sem.run_bind, hz, hne, go_sem]
theorem alloc_tot (w : World) : (Instr.alloc 56 true (.tuple #[])).run Tryd.prog w = .ok (.pointer (some ⟨w.heap.size, 0, none⟩)) (w.alloc (.cells Tot.zero.arr 56)) := by
  have hz : ∀ w, (zeroValue 56).run Tryd.prog w = .ok (.agg Tot.zero.arr) w := (zero_of_info (show (Tryd.prog.info? 56).map (fun i => (i.zero, i.size)) = some (some (.agg Tot.zero.arr), 3) by kernel_rfl)).1
  generalize Tot.zero.arr = Z at hz ⊢
  simp [Instr.alloc, Sem.run_bind, hz, go_sem]
theorem check_any (x : Ent) (hx : x.ok) (w : World) (hT : WordsT w) : Calls Tryd.prog 41 #[.agg x.arr] w fun e w' => e = .returned (.int .i64 (if okE x then 0 else 150)) ∧ Below w.heap.size w w' := callsIn_wide.1 (check_yes x hx w hT)
/-- What next tells. -/
def NextPost (b : Bk) (x : Ent) (w : World) (e : Ending) (w' : World) : Prop := e = .returned (.tuple #[.agg (nextP b x).1.arr, .agg (nextP b x).2.1.arr, .int .i64 (nextP b x).2.2]) ∧ Below w.heap.size w w'

set_option maxHeartbeats 4000000 in
theorem next_any (K : Int) (hK : K < 4611686018427387903) (b : Bk) (hb : b.ok K) (x : Ent) (hx : x.ok) (gb : Nat) (w : World) (hB : Held w gb 69 b.arr) (hT : WordsT w) :
    Calls Tryd.prog 32 #[.pointer (some ⟨gb, 0, none⟩), .agg x.arr] w (NextPost b x w) := by
  obtain ⟨X, hX⟩ : ∃ X, x.arr = X := ⟨_, rfl⟩
  have hlen := hx.2.2.2.2.2.2.2.2.2.2.1
  rw [hX]
  have HX := Lib.hid hX
  have HA := Lib.hid alloc_sum
  clear hX
  have hgl := hB.lt
  go_in
  go_upto_region 1 with (with_reducible refine wpList_alloc_at (dst := some 5) 65 _ _ (by kernel_rfl) (HA.out _) ?_; simp only [World.size_alloc, Act.put, List.setIfInBounds_toArray, List.set_cons_succ, List.set_cons_zero])
  have hX0 : Held (w.alloc (.cells X 63)) w.heap.size 63 X := Held.new w _ _
  have hA0 : Held ((w.alloc (.cells X 63)).alloc (.cells #[.int .i64 0, .int .i64 0, .int .i64 0] 56)) (w.heap.size + 1) 56 #[.int .i64 0, .int .i64 0, .int .i64 0] := Held.new_at (by simp)
  have hS0 : Held (((w.alloc (.cells X 63)).alloc (.cells #[.int .i64 0, .int .i64 0, .int .i64 0] 56)).alloc (.cells SumS.zero.arr 65)) (w.heap.size + 1 + 1) 65 SumS.zero.arr := Held.new_at (by simp)
  have hB0 := ((hB.alloc (.cells X 63)).alloc (.cells #[.int .i64 0, .int .i64 0, .int .i64 0] 56)).alloc (.cells SumS.zero.arr 65)
  replace hX0 := (hX0.alloc (.cells #[.int .i64 0, .int .i64 0, .int .i64 0] 56)).alloc (.cells SumS.zero.arr 65)
  replace hA0 := hA0.alloc (.cells SumS.zero.arr 65)
  have hb0 : Below w.heap.size w (((w.alloc (.cells X 63)).alloc (.cells #[.int .i64 0, .int .i64 0, .int .i64 0] 56)).alloc (.cells SumS.zero.arr 65)) :=
    (((Below.refl _ _).alloc (Nat.le_refl _) _).alloc (by simp) _).alloc (by simp; omega) _
  generalize (((w.alloc (.cells X 63)).alloc (.cells #[.int .i64 0, .int .i64 0, .int .i64 0] 56)).alloc (.cells SumS.zero.arr 65)) = W1 at hX0 hA0 hS0 hB0 hb0 ⊢
  have HC : Hid (Calls Tryd.prog 41 #[.agg X] W1 fun e w' => e = .returned (.int .i64 (if okE x then 0 else 150)) ∧ Below W1.heap.size W1 w') := Lib.hid (by rw [← HX.out]; exact check_any x hx W1 (hT.up hb0))
  have hXz : X.size = 42 := by rw [← HX.out]; exact Ent.arr_size x hlen
  have RX := Lib.hid hX0.range
  have IX : Hid ((Tryd.prog.info? 63).map (·.size) = some X.toList.length) := Lib.hid (by rw [ent_size x hlen, HX.out]; simp)
  have ISz := Lib.hid (show (Tryd.prog.info? 65).map (·.size) = some SumS.zero.arr.size by rw [sum_size, SumS.arr_size _ rfl])
  cases hok : okE x
  · have hn : nextP b x = (Tot.zero, SumS.zero, 150) := by unfold nextP; rw [if_pos hok]
    have HN := Lib.hid hn
    rw [hok] at HC
    clear hok hn
    go_wp2_with (first
      | (with_reducible refine wpList_load_at (dst := some 11) 63 (.tmp 3) w.heap.size 0 X.toList _ (by kernel_rfl) (by kernel_rfl) RX.out Tryd.underlying63 (by kernel_rfl) IX.out ?_; simp only [Act.put, List.setIfInBounds_toArray, List.set_cons_succ, List.set_cons_zero])
      | (go_at_call 41; refine HC.out.mono ?_; rintro e V ⟨rfl, hbV⟩; have hA1 := hA0.below hbV hA0.lt; have hS1 := hS0.below hbV hS0.lt)
      | (with_reducible refine wpList_build_at (dst := some 16) 65 #[] #[] _ (by kernel_rfl) (by kernel_rfl) (build_sum _) ?_; simp only [Act.put, List.setIfInBounds_toArray, List.set_cons_succ, List.set_cons_zero])
      | (with_reducible refine wpList_store_held 56 (.tmp 4) (.tmp 15) (w.heap.size + 1) 56 _ _ (by kernel_rfl) (by kernel_rfl) (by kernel_rfl) hA1 (by rfl) (by kernel_rfl) (by kernel_rfl) ?_; intro V2 hA2 hbt2 hz2; simp only [Act.put, List.setIfInBounds_toArray, List.set_cons_succ, List.set_cons_zero])
      | (with_reducible refine wpList_store_held 65 (.tmp 5) (.tmp 16) (w.heap.size + 1 + 1) 65 _ SumS.zero.arr (by kernel_rfl) (by kernel_rfl) (by kernel_rfl) (hbt2.held (by omega) hS1) (by rfl) ISz.out (sum_one _) ?_; intro V3 hS3 hbt3 hz3; simp only [Act.put, List.setIfInBounds_toArray, List.set_cons_succ, List.set_cons_zero]))
    refine bodyPost_ret (results_cells2_tmp (t1 := 56) (t2 := 65) rfl _ _ _ _ _ _ _ _ _ _ (by kernel_rfl) (by kernel_rfl) rfl (hbt3.held (by omega) hA2) hS3 Tryd.underlying56 Tryd.underlying65 (by kernel_rfl) (by kernel_rfl) (by kernel_rfl) ISz.out) rfl ?_
    exact ⟨by rw [HN.out]; rfl, (hb0.trans (hbV.mono hb0.size)).trans ((hbt2.below (by omega) (by have := hbV.size; have := hb0.size; omega)).trans (hbt3.below (by omega) (by have := hbV.size; have := hb0.size; omega)))⟩
  · obtain ⟨hk15, hm, hbd, he1, he2, hfl⟩ := okE_in x hx hok
    obtain ⟨m, hm2⟩ : ∃ m : Nat, x.meter = m := ⟨x.meter.toNat, by omega⟩
    obtain ⟨k, hk2⟩ : ∃ k : Nat, x.band = k := ⟨x.band.toNat, by omega⟩
    have hm3 : m < 64 := by omega
    have hk3 : k < 8 := by omega
    have hm4 : (m : Int) < 64 := by omega
    have hk4 : (k : Int) < 8 := by omega
    rw [hok] at HC
    have HOK := Lib.hid hok
    have HM2 := Lib.hid hm2
    have HK2 := Lib.hid hk2
    clear hok hm2 hk2 hm hbd
    go_upto_region 4 with (first
      | (with_reducible refine wpList_load_at (dst := some 11) 63 (.tmp 3) w.heap.size 0 X.toList _ (by kernel_rfl) (by kernel_rfl) RX.out Tryd.underlying63 (by kernel_rfl) IX.out ?_; simp only [Act.put, List.setIfInBounds_toArray, List.set_cons_succ, List.set_cons_zero])
      | (go_at_call 41; refine HC.out.mono ?_; rintro e V ⟨rfl, hbV⟩; have hA1 := hA0.below hbV hA0.lt; have hS1 := hS0.below hbV hS0.lt; have hX1 := hX0.below hbV hX0.lt; have hB1 := hB0.below hbV hB0.lt; have hb1 := hb0.trans (hbV.mono hb0.size)))
    have hVz : w.heap.size + 3 ≤ V.heap.size := by have := hS1.lt; omega
    clear hA0 hS0 hX0 hB0 hb0 HC RX hbV
    go_cut [8, 9, 10] from 11 (fun s8 s9 s10 wx => ∃ p8 p9, s8 = .pointer (some ⟨p8, 0, none⟩) ∧ s9 = .pointer (some ⟨p9, 0, none⟩) ∧ s10 = .int .i64 0 ∧ (p8 ≠ p9 ∧ V.heap.size ≤ p8 ∧ V.heap.size ≤ p9) ∧ Held wx p8 56 (b.totAt m k).arr ∧ Held wx p9 65 (b.sumAt m).arr ∧ Below V.heap.size V wx)
    case first =>
      have hbk : (b.totAt m k).ok K := hb.totAt m k hm3 hk3
      have hbs : (b.sumAt m).ok K := hb.sumAt m hm3
      have HRT := Lib.hid (fun W (h : Below V.heap.size V W) => b.tot_range hb m k hm3 hk3 (hB1.below h hB1.lt))
      have HRS := Lib.hid (fun W (h : Below V.heap.size V W) => b.sum_range hb m hm3 (hB1.below h hB1.lt))
      have ISl := Lib.hid (show (Tryd.prog.info? 65).map (·.size) = some (b.sumAt m).cells.length by rw [sum_size, SumS.cells_len _ hbs.hash])
      obtain ⟨wd, hwd⟩ : ∃ W : World, V.drew = W := ⟨_, rfl⟩
      have hS : Below V.heap.size V wd := by rw [← hwd]; exact (Below.refl _ _).drew
      have hSw := hS
      refine wp_region_held (S := Below V.heap.size V) (by kernel_rfl) ?_
      change wpAnyH _ _ _ _ _ _ _ _ V.drew
      rw [hwd]
      clear hwd
      refine wpAnyH_take (i := 0) (v := ?v0_1) rfl (by kernel_rfl) (by kernel_rfl) (by kernel_rfl) (fun _ _ _ h => h) (Or.inl ⟨by rfl, ?y0_1⟩) hS ?r0_1
      case y0_1 =>
        rintro W hH
        go_simp
        with_reducible rfl
      simp only [Act.put]
      try simp only [List.getElem_toArray, List.getElem_cons_zero]
      try simp only [List.setIfInBounds_toArray, List.set_cons_succ, List.set_cons_zero]
      refine wpAnyH_take (i := 1) (v := ?v1_2) rfl (by kernel_rfl) (by kernel_rfl) (by kernel_rfl) (fun _ _ _ h => h) (Or.inl ⟨by rfl, ?y1_2⟩) hS ?r1_2
      case y1_2 =>
        rintro W hH
        go_simp
        with_reducible rfl
      simp only [Act.put]
      try simp only [List.getElem_toArray, List.getElem_cons_succ, List.getElem_cons_zero]
      try simp only [List.setIfInBounds_toArray, List.set_cons_succ, List.set_cons_zero]
      refine wpAnyH_take (i := 2) (v := ?v2_3) rfl (by kernel_rfl) (by kernel_rfl) (by kernel_rfl) (fun _ _ _ h => h) (Or.inl ⟨by rfl, ?y2_3⟩) hS ?r2_3
      case y2_3 =>
        rintro W hH
        have xc := ent_cells (e := x) (by rw [HX.out]; exact hX1.below hH hX1.lt)
        obtain ⟨_, xc1, _, _, xc4, _⟩ := xc
        rw [HM2.out] at xc1
        rw [HK2.out] at xc4
        go_simp
        with_reducible rfl
      simp only [Act.put]
      try simp only [List.getElem_toArray, List.getElem_cons_succ, List.getElem_cons_zero]
      try simp only [List.setIfInBounds_toArray, List.set_cons_succ, List.set_cons_zero]
      refine wpAnyH_take (i := 3) (v := ?v3_4) rfl (by kernel_rfl) (by kernel_rfl) (by kernel_rfl) (fun _ _ _ h => h) (Or.inl ⟨by rfl, ?y3_4⟩) hS ?r3_4
      case y3_4 =>
        rintro W hH
        go_simp
        with_reducible rfl
      simp only [Act.put]
      try simp only [List.getElem_toArray, List.getElem_cons_succ, List.getElem_cons_zero]
      try simp only [List.setIfInBounds_toArray, List.set_cons_succ, List.set_cons_zero]
      refine wpAnyH_take (i := 4) (v := ?v4_5) rfl (by kernel_rfl) (by kernel_rfl) (by kernel_rfl) (fun _ _ _ h => h) (Or.inl ⟨by rfl, ?y4_5⟩) hS ?r4_5
      case y4_5 =>
        rintro W hH
        have xc := ent_cells (e := x) (by rw [HX.out]; exact hX1.below hH hX1.lt)
        obtain ⟨_, xc1, _, _, xc4, _⟩ := xc
        rw [HM2.out] at xc1
        rw [HK2.out] at xc4
        go_simp
        with_reducible rfl
      simp only [Act.put]
      try simp only [List.getElem_toArray, List.getElem_cons_succ, List.getElem_cons_zero]
      try simp only [List.setIfInBounds_toArray, List.set_cons_succ, List.set_cons_zero]
      refine wpAnyH_take (i := 5) (v := ?v5_6) rfl (by kernel_rfl) (by kernel_rfl) (by kernel_rfl) (fun _ _ _ h => h) (Or.inl ⟨by rfl, ?y5_6⟩) hS ?r5_6
      case y5_6 =>
        rintro W hH
        go_simp
        with_reducible rfl
      simp only [Act.put]
      try simp only [List.getElem_toArray, List.getElem_cons_succ, List.getElem_cons_zero]
      try simp only [List.setIfInBounds_toArray, List.set_cons_succ, List.set_cons_zero]
      refine wpAnyH_take (i := 6) (v := ?v6_7) rfl (by kernel_rfl) (by kernel_rfl) (by kernel_rfl) (fun _ _ _ h => h) (Or.inl ⟨by rfl, ?y6_7⟩) hS ?r6_7
      case y6_7 =>
        rintro W hH
        go_simp
        with_reducible rfl
      simp only [Act.put]
      try simp only [List.getElem_toArray, List.getElem_cons_succ, List.getElem_cons_zero]
      try simp only [List.setIfInBounds_toArray, List.set_cons_succ, List.set_cons_zero]
      refine wpAnyH_take (i := 7) (v := ?v7_8) rfl (by kernel_rfl) (by kernel_rfl) (by kernel_rfl) (fun _ _ _ h => h) (Or.inl ⟨by rfl, ?y7_8⟩) hS ?r7_8
      case y7_8 =>
        rintro W hH
        go_simp
        with_reducible rfl
      simp only [Act.put]
      try simp only [List.getElem_toArray, List.getElem_cons_succ, List.getElem_cons_zero]
      try simp only [List.setIfInBounds_toArray, List.set_cons_succ, List.set_cons_zero]
      refine wpAnyH_take (i := 8) (v := ?v8_9) rfl (by kernel_rfl) (by kernel_rfl) (by kernel_rfl) (fun _ _ _ h => h) (Or.inl ⟨by rfl, ?y8_9⟩) hS ?r8_9
      case y8_9 =>
        rintro W hH
        go_simp
        with_reducible rfl
      simp only [Act.put]
      try simp only [List.getElem_toArray, List.getElem_cons_succ, List.getElem_cons_zero]
      try simp only [List.setIfInBounds_toArray, List.set_cons_succ, List.set_cons_zero]
      refine wpAnyH_take (i := 9) (v := Value.agg (b.totAt m k).arr) rfl (by kernel_rfl) (by kernel_rfl) (by kernel_rfl) (fun _ _ _ h => h) ?y9_10 hS ?r9_10
      case y9_10 => exact yieldsIf_load_mid (by kernel_rfl) 56 (.tmp 26) rfl gb (m * 24 + k * 3) (by kernel_rfl) (b.totAt m k).cells _ (fun W h => HRT.out W h) Tryd.underlying56 (by kernel_rfl) (by kernel_rfl)
      simp only [Act.put]
      try simp only [List.getElem_toArray, List.getElem_cons_succ, List.getElem_cons_zero]
      try simp only [List.setIfInBounds_toArray, List.set_cons_succ, List.set_cons_zero]
      refine wpAnyH_take (i := 10) (v := ?v10_11) rfl (by kernel_rfl) (by kernel_rfl) (by kernel_rfl) (fun _ _ _ h => h) (Or.inl ⟨by rfl, ?y10_11⟩) hS ?r10_11
      case y10_11 =>
        rintro W hH
        go_simp
        with_reducible rfl
      simp only [Act.put]
      try simp only [List.getElem_toArray, List.getElem_cons_succ, List.getElem_cons_zero]
      try simp only [List.setIfInBounds_toArray, List.set_cons_succ, List.set_cons_zero]
      refine wpAnyH_take (i := 11) (v := ?v11_12) rfl (by kernel_rfl) (by kernel_rfl) (by kernel_rfl) (fun _ _ _ h => h) (Or.inl ⟨by rfl, ?y11_12⟩) hS ?r11_12
      case y11_12 =>
        rintro W hH
        go_simp
        with_reducible rfl
      simp only [Act.put]
      try simp only [List.getElem_toArray, List.getElem_cons_succ, List.getElem_cons_zero]
      try simp only [List.setIfInBounds_toArray, List.set_cons_succ, List.set_cons_zero]
      refine wpAnyH_take (i := 12) (v := ?v12_13) rfl (by kernel_rfl) (by kernel_rfl) (by kernel_rfl) (fun _ _ _ h => h) (Or.inl ⟨by rfl, ?y12_13⟩) hS ?r12_13
      case y12_13 =>
        rintro W hH
        have xc := ent_cells (e := x) (by rw [HX.out]; exact hX1.below hH hX1.lt)
        obtain ⟨_, xc1, _, _, xc4, _⟩ := xc
        rw [HM2.out] at xc1
        rw [HK2.out] at xc4
        go_simp
        with_reducible rfl
      simp only [Act.put]
      try simp only [List.getElem_toArray, List.getElem_cons_succ, List.getElem_cons_zero]
      try simp only [List.setIfInBounds_toArray, List.set_cons_succ, List.set_cons_zero]
      refine wpAnyH_take (i := 13) (v := ?v13_14) rfl (by kernel_rfl) (by kernel_rfl) (by kernel_rfl) (fun _ _ _ h => h) (Or.inl ⟨by rfl, ?y13_14⟩) hS ?r13_14
      case y13_14 =>
        rintro W hH
        go_simp
        with_reducible rfl
      simp only [Act.put]
      try simp only [List.getElem_toArray, List.getElem_cons_succ, List.getElem_cons_zero]
      try simp only [List.setIfInBounds_toArray, List.set_cons_succ, List.set_cons_zero]
      refine wpAnyH_take (i := 14) (v := ?v14_15) rfl (by kernel_rfl) (by kernel_rfl) (by kernel_rfl) (fun _ _ _ h => h) (Or.inl ⟨by rfl, ?y14_15⟩) hS ?r14_15
      case y14_15 =>
        rintro W hH
        go_simp
        with_reducible rfl
      simp only [Act.put]
      try simp only [List.getElem_toArray, List.getElem_cons_succ, List.getElem_cons_zero]
      try simp only [List.setIfInBounds_toArray, List.set_cons_succ, List.set_cons_zero]
      refine wpAnyH_take (i := 15) (v := ?v15_16) rfl (by kernel_rfl) (by kernel_rfl) (by kernel_rfl) (fun _ _ _ h => h) (Or.inl ⟨by rfl, ?y15_16⟩) hS ?r15_16
      case y15_16 =>
        rintro W hH
        go_simp
        with_reducible rfl
      simp only [Act.put]
      try simp only [List.getElem_toArray, List.getElem_cons_succ, List.getElem_cons_zero]
      try simp only [List.setIfInBounds_toArray, List.set_cons_succ, List.set_cons_zero]
      refine wpAnyH_take (i := 16) (v := Value.agg (b.sumAt m).arr) rfl (by kernel_rfl) (by kernel_rfl) (by kernel_rfl) (fun _ _ _ h => h) ?y16_17 hS ?r16_17
      case y16_17 => exact yieldsIf_load_mid (by kernel_rfl) 65 (.tmp 33) rfl gb (1536 + m * 49) (by kernel_rfl) (b.sumAt m).cells _ (fun W h => HRS.out W h) Tryd.underlying65 (by kernel_rfl) ISl.out
      simp only [Act.put]
      try simp only [List.getElem_toArray, List.getElem_cons_succ, List.getElem_cons_zero]
      try simp only [List.setIfInBounds_toArray, List.set_cons_succ, List.set_cons_zero]
      refine wpAnyH_ready (rs := [17, 18]) (by kernel_rfl) (by simp) ?_
      refine AllReadyH.cons rfl (fun K' hK' => ?_) (AllReadyH.cons rfl (fun K' hK' => ?_) AllReadyH.nil)
      · skip
        refine wp_alloc_held 56 Tot.zero.arr rfl alloc_tot ?_
        intro V17 h8 b17 z17
        simp only [Act.put]
        refine hK'.out _ _ (hS.trans (b17.mono hS.size)) (fun hS => ?_)
        clear hK' K'
        refine wpAnyH_ready (rs := [18]) (by kernel_rfl) (by simp) ?_
        refine AllReadyH.cons rfl (fun K' hK' => ?_) AllReadyH.nil
        refine wp_alloc_held 65 SumS.zero.arr rfl HA.out ?_
        intro V18 h9 b18 z18
        simp only [Act.put]
        replace h8 := h8.below b18 h8.lt
        refine hK'.out _ _ (hS.trans (b18.mono hS.size)) (fun hS => ?_)
        clear hK' K'
        refine wpAnyH_ready (rs := [19]) (by kernel_rfl) (by simp) ?_
        refine AllReadyH.cons rfl (fun K' hK' => ?_) AllReadyH.nil
        refine wp_store_held 56 (.tmp 8) (.tmp 27) rfl (wd.heap.size) 56 _ (b.totAt m k).arr (by kernel_rfl) (by kernel_rfl) h8 (by rfl) (by kernel_rfl) (tot_one _) ?_
        intro V19 g8 b19 z19
        simp only [Act.put]
        have hsz := hS.size
        have hwd := hSw.size
        replace h9 := b19.held (by omega) h9
        refine hK'.out _ _ (hS.trans (b19.below (by omega) (by omega))) (fun hS => ?_)
        clear hK' K'
        refine wpAnyH_ready (rs := [20]) (by kernel_rfl) (by simp) ?_
        refine AllReadyH.cons rfl (fun K' hK' => ?_) AllReadyH.nil
        refine wp_store_held 65 (.tmp 9) (.tmp 34) rfl (V17.heap.size) 65 _ (b.sumAt m).arr (by kernel_rfl) (by kernel_rfl) h9 (by rw [SumS.arr_size _ hbs.hash]; rfl) (by rw [sum_size, SumS.arr_size _ hbs.hash]) (sum_one _) ?_
        intro V20 g9 b20 z20
        simp only [Act.put]
        replace g8 := b20.held (by omega) g8
        refine hK'.out _ _ (hS.trans (b20.below (by omega) (by omega))) (fun hS => ?_)
        clear hK' K'
        refine wpAnyH_take (i := 21) (v := ?v21_18) rfl (by kernel_rfl) (by kernel_rfl) (by kernel_rfl) (fun _ _ _ h => h) (Or.inl ⟨by rfl, ?y21_18⟩) hS ?r21_18
        case y21_18 =>
          rintro W hH
          go_simp
          with_reducible rfl
        simp only [Act.put]
        try simp only [List.getElem_toArray, List.getElem_cons_succ, List.getElem_cons_zero]
        try simp only [List.setIfInBounds_toArray, List.set_cons_succ, List.set_cons_zero]
        refine wpAnyH_done (by kernel_rfl) ?_ _
        go_wp2_with fail
        go_meet
        case rel => exact ⟨_, _, rfl, rfl, rfl, ⟨by omega, by omega, by omega⟩, g8, g9, hS⟩
      · skip
        refine wp_alloc_held 65 SumS.zero.arr rfl HA.out ?_
        intro V18 h9 b18 z18
        simp only [Act.put]
        refine hK'.out _ _ (hS.trans (b18.mono hS.size)) (fun hS => ?_)
        clear hK' K'
        refine wpAnyH_ready (rs := [17]) (by kernel_rfl) (by simp) ?_
        refine AllReadyH.cons rfl (fun K' hK' => ?_) AllReadyH.nil
        refine wp_alloc_held 56 Tot.zero.arr rfl alloc_tot ?_
        intro V17 h8 b17 z17
        simp only [Act.put]
        replace h9 := h9.below b17 h9.lt
        refine hK'.out _ _ (hS.trans (b17.mono hS.size)) (fun hS => ?_)
        clear hK' K'
        refine wpAnyH_ready (rs := [19]) (by kernel_rfl) (by simp) ?_
        refine AllReadyH.cons rfl (fun K' hK' => ?_) AllReadyH.nil
        refine wp_store_held 56 (.tmp 8) (.tmp 27) rfl (V18.heap.size) 56 _ (b.totAt m k).arr (by kernel_rfl) (by kernel_rfl) h8 (by rfl) (by kernel_rfl) (tot_one _) ?_
        intro V19 g8 b19 z19
        simp only [Act.put]
        have hsz := hS.size
        have hwd := hSw.size
        replace h9 := b19.held (by omega) h9
        refine hK'.out _ _ (hS.trans (b19.below (by omega) (by omega))) (fun hS => ?_)
        clear hK' K'
        refine wpAnyH_ready (rs := [20]) (by kernel_rfl) (by simp) ?_
        refine AllReadyH.cons rfl (fun K' hK' => ?_) AllReadyH.nil
        refine wp_store_held 65 (.tmp 9) (.tmp 34) rfl (wd.heap.size) 65 _ (b.sumAt m).arr (by kernel_rfl) (by kernel_rfl) h9 (by rw [SumS.arr_size _ hbs.hash]; rfl) (by rw [sum_size, SumS.arr_size _ hbs.hash]) (sum_one _) ?_
        intro V20 g9 b20 z20
        simp only [Act.put]
        replace g8 := b20.held (by omega) g8
        refine hK'.out _ _ (hS.trans (b20.below (by omega) (by omega))) (fun hS => ?_)
        clear hK' K'
        refine wpAnyH_take (i := 21) (v := ?v21_19) rfl (by kernel_rfl) (by kernel_rfl) (by kernel_rfl) (fun _ _ _ h => h) (Or.inl ⟨by rfl, ?y21_19⟩) hS ?r21_19
        case y21_19 =>
          rintro W hH
          go_simp
          with_reducible rfl
        simp only [Act.put]
        try simp only [List.getElem_toArray, List.getElem_cons_succ, List.getElem_cons_zero]
        try simp only [List.setIfInBounds_toArray, List.set_cons_succ, List.set_cons_zero]
        refine wpAnyH_done (by kernel_rfl) ?_ _
        go_wp2_with fail
        go_meet
        case rel => exact ⟨_, _, rfl, rfl, rfl, ⟨by omega, by omega, by omega⟩, g8, g9, hS⟩
    case rest =>
    obtain ⟨p8, p9, rfl, rfl, rfl, ⟨hne, h8l, h9l⟩, hT8, hS9, hbc⟩ := hcut
    obtain ⟨wv, hwv⟩ : ∃ W, wc = W := ⟨_, rfl⟩
    rw [hwv] at hT8 hS9 hbc ⊢
    clear hwv
    have hXc := hX1.below hbc hX1.lt
    have hAc := hA1.below hbc hA1.lt
    have hSc := hS1.below hbc hS1.lt
    have hb1c := hb1.trans (hbc.mono hb1.size)
    have hbk : (b.totAt m k).ok K := hb.totAt m k hm3 hk3
    have hbs : (b.sumAt m).ok K := hb.sumAt m hm3
    have hmn : x.meter.toNat = m := by rw [HM2.out]; rfl
    have hkn : x.band.toNat = k := by rw [HK2.out]; rfl
    have HNX : Hid (nextP b x = if x.kind = 2 then (b.totAt m k, { b.sumAt m with suspects := (b.sumAt m).suspects + 1 }, 0) else if x.kind = 3 then (b.totAt m k, { b.sumAt m with replaced := (b.sumAt m).replaced + 1 }, 0)
      else if x.kind = 1 then amountsP (b.totAt m k) { b.sumAt m with last := x, intervals := (b.sumAt m).intervals + 1, flagged := (b.sumAt m).flagged + min x.flags 1 } x
      else if x.kind = 4 then amountsP (b.totAt m k) { b.sumAt m with corrected := (b.sumAt m).corrected + 1 } x else (b.totAt m k, b.sumAt m, 0)) := Lib.hid (by
        unfold nextP
        rw [if_neg (by rw [HOK.out]; simp), hmn, hkn])
    obtain ⟨T, hTe⟩ : ∃ T, b.totAt m k = T := ⟨_, rfl⟩
    obtain ⟨S, hSe⟩ : ∃ S, b.sumAt m = S := ⟨_, rfl⟩
    rw [hTe] at hT8 hbk HNX
    rw [hSe] at hS9 hbs HNX
    clear hTe hSe hmn hkn hX1 hA1 hS1 hB1 hb1 hm3 hk3 hm4 hk4
    obtain ⟨xc0, _, _, _, _, _, _, xc7, _⟩ := ent_cells (e := x) (by rw [HX.out]; exact hXc)
    obtain ⟨sc0, sc1, sc2, sc3, sc4, sc5, sc6⟩ := sum_cells hS9
    have sf2 := hS9.frozen 2
    have sf3 := hS9.frozen 3
    have sf4 := hS9.frozen 4
    have sf5 := hS9.frozen 5
    have sf6 := hS9.frozen 6
    have hwl := hb1c.size
    have hgp9 : w.heap.size ≠ p9 := by omega
    have hp9g : p9 ≠ w.heap.size := by omega
    obtain ⟨i1, i2, i3, i4, i5, i6, i7, i8⟩ := hbs
    have hbs2 : S.ok K := ⟨i1, i2, i3, i4, i5, i6, i7, i8⟩
    obtain ⟨i31, i32⟩ := i3
    obtain ⟨i41, i42⟩ := i4
    obtain ⟨i51, i52⟩ := i5
    obtain ⟨i61, i62⟩ := i6
    obtain ⟨i71, i72⟩ := i7
    have HBK := Lib.hid hbk
    have HBS := Lib.hid hbs2
    have HI8 := Lib.hid i8
    clear i1 i2 i8 hbk hbs2
    have hk' := hk15
    clear hk15
    rcases (show x.kind = 1 ∨ x.kind = 2 ∨ x.kind = 3 ∨ x.kind = 4 ∨ x.kind = 5 by omega) with hk1 | hk1 | hk1 | hk1 | hk1
    · have HN := HNX
      rw [hk1] at HN
      have HXK : Hid (x.kind = 1) := Lib.hid hk1
      rw [hk1] at xc0
      clear hk1 hk' HNX
      have hSl : S.arr.size = 49 := SumS.arr_size _ HBS.out.hash
      have hth := hS9.there 7 X.size (by rw [hSl, hXz]; exact Nat.le_refl _)
      have hle : Held (wv.setCells p9 7 X.toList) p9 65 ({ S with last := x } : SumS).arr := by
        have h0 := hS9
        have e0 : S.arr = (([.int .i64 S.energy, .int .i64 S.cost, .int .i64 S.intervals, .int .i64 S.flagged, .int .i64 S.suspects, .int .i64 S.replaced, .int .i64 S.corrected] : List Value) ++ (S.last.cells ++ [])).toArray := by simp [SumS.arr, SumS.cells]
        rw [e0] at h0
        have h1 := held_splice x.cells _ _ _ (by rw [Ent.cells_len x hlen, Ent.cells_len _ HBS.out.hash]) h0
        have e1 : (([.int .i64 S.energy, .int .i64 S.cost, .int .i64 S.intervals, .int .i64 S.flagged, .int .i64 S.suspects, .int .i64 S.replaced, .int .i64 S.corrected] : List Value) ++ (x.cells ++ [])).toArray = ({ S with last := x } : SumS).arr := by simp [SumS.arr, SumS.cells]
        rw [e1] at h1
        have e2 : X.toList = x.cells := by rw [← HX.out]; rfl
        rw [e2]; exact h1
      have hbt : But p9 wv (wv.setCells p9 7 X.toList) := But.sets _ _ (But.refl _ _)
      have RX := Lib.hid hXc.range
      have HTH := Lib.hid hth
      have HX1 : Hid (X.all (·.oneCell') = true) := Lib.hid (by rw [← HX.out]; exact ent_one x)
      have IXs : Hid ((Tryd.prog.info? 63).map (·.size) = some X.size) := Lib.hid (by rw [ent_size x hlen, HX.out])
      have HLE := Lib.hid hle
      have HBT := Lib.hid hbt
      clear hth hle hbt sc0 sc1 sc2 sc3 sc4 sc5 sc6 sf2 sf3 sf4 sf5 sf6
      go_upto_region 13 with (first
        | (with_reducible refine wpList_load_at (dst := some 53) 63 (.tmp 3) w.heap.size 0 X.toList _ (by kernel_rfl) (by kernel_rfl) RX.out Tryd.underlying63 (by kernel_rfl) IX.out ?_; simp only [Act.put, List.setIfInBounds_toArray, List.set_cons_succ, List.set_cons_zero])
        | (with_reducible refine wpList_store_at 63 (.tmp 54) (.tmp 53) p9 7 X (by kernel_rfl) (by kernel_rfl) (by kernel_rfl) HTH.out IXs.out HX1.out ?_; simp only [Act.put, List.setIfInBounds_toArray, List.set_cons_succ, List.set_cons_zero]))
      obtain ⟨wl, hwl⟩ : ∃ W, wv.setCells p9 7 X.toList = W := ⟨_, rfl⟩
      have hl9 := HLE.out
      have hbt := HBT.out
      rw [hwl] at hl9 hbt ⊢
      clear hwl HLE HBT RX
      have hl8 := hbt.held (by omega) hT8
      have hlX := hbt.held (by omega) hXc
      have hlA := hbt.held (by omega) hAc
      have hlS := hbt.held (by omega) hSc
      have hlb := hb1c.trans (hbt.below (by omega) (by omega))
      clear hbt hT8 hS9 hXc hAc hSc hb1c xc0 xc7
      obtain ⟨xc0, _, _, _, _, _, _, xc7, _⟩ := ent_cells (e := x) (by rw [HX.out]; exact hlX)
      obtain ⟨sc0, sc1, sc2, sc3, sc4, sc5, sc6⟩ := sum_cells hl9
      dsimp only at sc2 sc3 sc6
      have sf2 := hl9.frozen 2
      have sf3 := hl9.frozen 3
      have sf6 := hl9.frozen 6
      clear sc0 sc1 sc4 sc5
      go_upto_region 17 with (fail)
      obtain ⟨Sq, hSq⟩ : ∃ s : SumS, { S with last := x, intervals := S.intervals + 1, flagged := S.flagged + min x.flags 1 } = s := ⟨_, rfl⟩
      have hmin : (if 1 < x.flags then 1 else x.flags) = min x.flags 1 := by split <;> omega
      have hsq : Sq.ok (K + 1) := by rw [← hSq]; exact ⟨HBS.out.1, HBS.out.2.1, ⟨by show 0 ≤ S.intervals + 1; omega, by show S.intervals + 1 ≤ K + 1; omega⟩, ⟨by show 0 ≤ S.flagged + min x.flags 1; omega, by show S.flagged + min x.flags 1 ≤ K + 1; omega⟩, ⟨i51, by show S.suspects ≤ K + 1; omega⟩, ⟨i61, by show S.replaced ≤ K + 1; omega⟩, ⟨i71, by show S.corrected ≤ K + 1; omega⟩, hx⟩
      have HN2 : Hid (nextP b x = ((amountsP T Sq x).1, (amountsP T Sq x).2.1, (amountsP T Sq x).2.2)) := Lib.hid (by rw [HN.out, if_neg (by decide), if_neg (by decide), if_pos rfl, hSq])
      replace HN := HN2
      clear HN2
      rw [hmin]
      obtain ⟨wq, hwq⟩ : ∃ W, (((wl.setCell ⟨p9, 2, none⟩ (.int .i64 (S.intervals + 1))).setCell ⟨p9, 3, none⟩ (.int .i64 (S.flagged + min x.flags 1))).setCell ⟨p9, 6, none⟩ (.int .i64 (S.corrected - 1))).setCell ⟨p9, 6, none⟩ (.int .i64 S.corrected) = W := ⟨_, rfl⟩
      have q9 : Held wq p9 65 Sq.arr := by rw [← hwq, ← hSq]; have := (((hl9.set 2 (.int .i64 (S.intervals + 1))).set 3 (.int .i64 (S.flagged + min x.flags 1))).set 6 (.int .i64 (S.corrected - 1))).set 6 (.int .i64 S.corrected); simpa [SumS.arr, SumS.cells] using this
      have hbq : But p9 wl wq := by rw [← hwq]; exact ((((But.refl p9 wl).set 2 _).set 3 _).set 6 _).set 6 _
      rw [hwq]
      clear hwq hmin hSq
      have q8 := hbq.held (by omega) hl8
      have qX := hbq.held (by omega) hlX
      have qA := hbq.held (by omega) hlA
      have qS := hbq.held (by omega) hlS
      have qb := hlb.trans (hbq.below (by omega) hlb.size)
      clear hl8 hl9 hlX hlA hlS hlb hbq sc2 sc3 sc6 sf2 sf3 sf6 xc0 xc7
      have HAM : Hid (∀ V, Calls Tryd.prog 42 #[.agg T.arr, .agg Sq.arr, .agg X] V fun e w' => e = .returned (.tuple #[.agg (amountsP T Sq x).1.arr, .agg (amountsP T Sq x).2.1.arr, .int .i64 (amountsP T Sq x).2.2]) ∧ Below V.heap.size V w') := Lib.hid (fun V => by rw [← HX.out]; exact amounts_any (K + 1) (by omega) T Sq x (HBK.out.mono (by omega)) hsq he1 he2 V)
      have hql : Sq.arr.size = 49 := SumS.arr_size _ hsq.hash
      have hal : (amountsP T Sq x).2.1.last.hash.length = 32 := hsq.hash
      have IT0 : Hid ((Tryd.prog.info? 56).map (·.size) = some T.arr.size) := Lib.hid tot_size
      have IS0 : Hid ((Tryd.prog.info? 65).map (·.size) = some Sq.arr.size) := Lib.hid (by rw [sum_size, hql])
      have IX0 : Hid ((Tryd.prog.info? 63).map (·.size) = some X.size) := Lib.hid (by rw [ent_size x hlen, HX.out])
      have IT1 : Hid ((Tryd.prog.info? 56).map (·.size) = some (amountsP T Sq x).1.arr.size) := Lib.hid tot_size
      have IS1 : Hid ((Tryd.prog.info? 65).map (·.size) = some (amountsP T Sq x).2.1.arr.size) := Lib.hid (by rw [sum_size, SumS.arr_size _ hal])
      have IZ1 : Hid ((amountsP T Sq x).2.1.arr.size = Sq.arr.size) := Lib.hid (by rw [SumS.arr_size _ hal, hql])
      have hqq := qb.size
      clear hql
      go_upto_region 18 with (first
        | (with_reducible refine wpList_load_held (dst := some 75) 56 (.tmp 8) p8 56 _ _ (by kernel_rfl) (by kernel_rfl) q8 Tryd.underlying56 (by kernel_rfl) IT0.out ?_; simp only [Act.put, List.setIfInBounds_toArray, List.set_cons_succ, List.set_cons_zero])
        | (with_reducible refine wpList_load_held (dst := some 76) 65 (.tmp 9) p9 65 _ _ (by kernel_rfl) (by kernel_rfl) q9 Tryd.underlying65 (by kernel_rfl) IS0.out ?_; simp only [Act.put, List.setIfInBounds_toArray, List.set_cons_succ, List.set_cons_zero])
        | (with_reducible refine wpList_load_held (dst := some 77) 63 (.tmp 3) w.heap.size 63 _ _ (by kernel_rfl) (by kernel_rfl) qX Tryd.underlying63 (by kernel_rfl) IX0.out ?_; simp only [Act.put, List.setIfInBounds_toArray, List.set_cons_succ, List.set_cons_zero])
        | (go_at_call 42; refine (HAM.out _).mono ?_; rintro e V5 ⟨rfl, hb5⟩; have r8 := q8.below hb5 q8.lt; have r9 := q9.below hb5 q9.lt; have rA5 := qA.below hb5 qA.lt; have rS5 := qS.below hb5 qS.lt; have rb := qb.trans (hb5.mono hqq))
        | (with_reducible refine wpList_store_held 56 (.tmp 8) (.tmp 79) p8 56 _ (amountsP T Sq x).1.arr (by kernel_rfl) (by kernel_rfl) (by kernel_rfl) r8 (by kernel_rfl) IT1.out (tot_one _) ?_; intro V6 u8 hb6 hz6; simp only [Act.put, List.setIfInBounds_toArray, List.set_cons_succ, List.set_cons_zero]; replace r9 := hb6.held (by omega) r9; replace rA5 := hb6.held (by omega) rA5; replace rS5 := hb6.held (by omega) rS5; replace rb := rb.trans (hb6.below (by omega) rb.size))
        | (with_reducible refine wpList_store_held 65 (.tmp 9) (.tmp 80) p9 65 _ (amountsP T Sq x).2.1.arr (by kernel_rfl) (by kernel_rfl) (by kernel_rfl) r9 IZ1.out IS1.out (sum_one _) ?_; intro wq' u9 hb7 hz7; simp only [Act.put, List.setIfInBounds_toArray, List.set_cons_succ, List.set_cons_zero]; replace u8 := hb7.held (by omega) u8; replace rA5 := hb7.held (by omega) rA5; replace rS5 := hb7.held (by omega) rS5; replace rb := rb.trans (hb7.below (by omega) rb.size)))
      clear q8 q9 qA qS qb qX hb5 hb6 hb7 hz6 hz7
      obtain ⟨wq, hwq⟩ : ∃ W, wq' = W := ⟨_, rfl⟩
      rw [hwq] at u8 u9 rA5 rS5 rb ⊢
      clear hwq
      have q8 := u8
      have q9 := u9
      have qA := rA5
      have qS := rS5
      have qb := rb
      clear u8 u9 rA5 rS5 rb
      obtain ⟨wd, hwd⟩ : ∃ W : World, wq.drew = W := ⟨_, rfl⟩
      have e8 : Held wd p8 56 ((amountsP T Sq x).1).arr := by rw [← hwd]; exact q8
      have e9 : Held wd p9 65 ((amountsP T Sq x).2.1).arr := by rw [← hwd]; exact q9
      have eA : Held wd (w.heap.size + 1) 56 #[.int .i64 0, .int .i64 0, .int .i64 0] := by rw [← hwd]; exact qA
      have eS : Held wd (w.heap.size + 1 + 1) 65 SumS.zero.arr := by rw [← hwd]; exact qS
      have eb : Below w.heap.size w wd := by rw [← hwd]; exact qb.drew
      have hsl : ((amountsP T Sq x).2.1).arr.size = 49 := SumS.arr_size _ hal
      have ITs : Hid ((Tryd.prog.info? 56).map (·.size) = some ((amountsP T Sq x).1).arr.size) := Lib.hid tot_size
      have ISs : Hid ((Tryd.prog.info? 65).map (·.size) = some ((amountsP T Sq x).2.1).arr.size) := Lib.hid (by rw [sum_size, hsl])
      have hS : Held wd p8 56 ((amountsP T Sq x).1).arr ∧ Held wd p9 65 ((amountsP T Sq x).2.1).arr := ⟨e8, e9⟩
      have hdl := eb.size
      refine wp_region_held (S := fun W => Held W p8 56 ((amountsP T Sq x).1).arr ∧ Held W p9 65 ((amountsP T Sq x).2.1).arr) (by kernel_rfl) ?_
      change wpAnyH _ _ _ _ _ _ _ _ wq.drew
      rw [hwd]
      clear hwd
      refine wpAnyH_take (i := 0) (v := Value.agg ((amountsP T Sq x).1).arr) rfl (by kernel_rfl) (by kernel_rfl) (by kernel_rfl) (fun _ _ _ h => h) ?y0_4001 hS ?r0_4001
      case y0_4001 => exact yieldsIf_load_held (by kernel_rfl) 56 (.tmp 8) rfl p8 56 ((amountsP T Sq x).1).arr _ (by kernel_rfl) (fun _ h => h.1) Tryd.underlying56 (by kernel_rfl) ITs.out
      simp only [Act.put]
      try simp only [List.getElem_toArray, List.getElem_cons_zero]
      try simp only [List.setIfInBounds_toArray, List.set_cons_succ, List.set_cons_zero]
      refine wpAnyH_take (i := 1) (v := Value.agg ((amountsP T Sq x).2.1).arr) rfl (by kernel_rfl) (by kernel_rfl) (by kernel_rfl) (fun _ _ _ h => h) ?y1_4002 hS ?r1_4002
      case y1_4002 => exact yieldsIf_load_held (by kernel_rfl) 65 (.tmp 9) rfl p9 65 ((amountsP T Sq x).2.1).arr _ (by kernel_rfl) (fun _ h => h.2) Tryd.underlying65 (by kernel_rfl) ISs.out
      simp only [Act.put]
      try simp only [List.getElem_toArray, List.getElem_cons_succ, List.getElem_cons_zero]
      try simp only [List.setIfInBounds_toArray, List.set_cons_succ, List.set_cons_zero]
      refine wpAnyH_take (i := 2) (v := ?v2_4003) rfl (by kernel_rfl) (by kernel_rfl) (by kernel_rfl) (fun _ _ _ h => h) (Or.inl ⟨by rfl, ?y2_4003⟩) hS ?r2_4003
      case y2_4003 =>
        rintro W hH
        go_simp
        with_reducible rfl
      simp only [Act.put]
      try simp only [List.getElem_toArray, List.getElem_cons_succ, List.getElem_cons_zero]
      try simp only [List.setIfInBounds_toArray, List.set_cons_succ, List.set_cons_zero]
      refine wpAnyH_ready (rs := [3]) (by kernel_rfl) (by simp) ?_
      refine AllReadyH.cons rfl (fun K' hK' => ?_) AllReadyH.nil
      refine wp_store_held 56 (.tmp 4) (.tmp 82) rfl (w.heap.size + 1) 56 _ ((amountsP T Sq x).1).arr (by kernel_rfl) (by kernel_rfl) eA (by rfl) ITs.out (tot_one _) ?_
      intro V3 rA b3 z3
      simp only [Act.put]
      replace eS := b3.held (by omega) eS
      replace eb := eb.trans (b3.below (by omega) (by omega))
      refine hK'.out _ _ ⟨b3.held (by omega) hS.1, b3.held (by omega) hS.2⟩ (fun hS => ?_)
      clear hK' K'
      refine wpAnyH_ready (rs := [4]) (by kernel_rfl) (by simp) ?_
      refine AllReadyH.cons rfl (fun K' hK' => ?_) AllReadyH.nil
      refine wp_store_held 65 (.tmp 5) (.tmp 83) rfl (w.heap.size + 1 + 1) 65 _ ((amountsP T Sq x).2.1).arr (by kernel_rfl) (by kernel_rfl) eS (by rw [hsl, SumS.arr_size _ rfl]) ISs.out (sum_one _) ?_
      intro V4 rS b4 z4
      simp only [Act.put]
      replace rA := b4.held (by omega) rA
      replace eb := eb.trans (b4.below (by omega) (by omega))
      refine hK'.out _ _ ⟨b4.held (by omega) hS.1, b4.held (by omega) hS.2⟩ (fun hS => ?_)
      clear hK' K'
      refine wpAnyH_take (i := 5) (v := ?v5_4004) rfl (by kernel_rfl) (by kernel_rfl) (by kernel_rfl) (fun _ _ _ h => h) (Or.inl ⟨by rfl, ?y5_4004⟩) hS ?r5_4004
      case y5_4004 =>
        rintro W hH
        go_simp
        with_reducible rfl
      simp only [Act.put]
      try simp only [List.getElem_toArray, List.getElem_cons_succ, List.getElem_cons_zero]
      try simp only [List.setIfInBounds_toArray, List.set_cons_succ, List.set_cons_zero]
      refine wpAnyH_done (by kernel_rfl) ?_ _
      go_wp2_with fail
      refine bodyPost_ret (results_cells2_tmp (t1 := 56) (t2 := 65) rfl _ _ _ _ _ _ _ _ _ _ (by kernel_rfl) (by kernel_rfl) rfl rA rS Tryd.underlying56 Tryd.underlying65 (by kernel_rfl) (by kernel_rfl) ITs.out ISs.out) rfl ?_
      exact ⟨by rw [HN.out]; rfl, eb⟩
    · have HN := HNX
      rw [hk1] at HN
      have HXK : Hid (x.kind = 2) := Lib.hid hk1
      rw [hk1] at xc0
      clear hk1 hk' HNX
      have HN2 : Hid (nextP b x = (T, { S with suspects := S.suspects + 1 }, 0)) := Lib.hid (by rw [HN.out, if_pos rfl])
      replace HN := HN2
      clear HN2
      go_upto_region 18 with (fail)
      obtain ⟨wq, hwq⟩ : ∃ W, wv.setCell ⟨p9, 4, none⟩ (.int .i64 (S.suspects + 1)) = W := ⟨_, rfl⟩
      rw [hwq]
      have q8 : Held wq p8 56 T.arr := by rw [← hwq]; exact hT8.far (p := ⟨p9, 4, none⟩) (by show p8 ≠ p9; omega) _
      have q9 : Held wq p9 65 ({ S with suspects := S.suspects + 1 } : SumS).arr := by rw [← hwq]; have := hS9.set 4 (.int .i64 (S.suspects + 1)); simpa [SumS.arr, SumS.cells] using this
      have qA : Held wq (w.heap.size + 1) 56 #[.int .i64 0, .int .i64 0, .int .i64 0] := by rw [← hwq]; exact hAc.far (p := ⟨p9, 4, none⟩) (by show w.heap.size + 1 ≠ p9; omega) _
      have qS : Held wq (w.heap.size + 1 + 1) 65 SumS.zero.arr := by rw [← hwq]; exact hSc.far (p := ⟨p9, 4, none⟩) (by show w.heap.size + 1 + 1 ≠ p9; omega) _
      have qb : Below w.heap.size w wq := by rw [← hwq]; exact hb1c.setCell (p := ⟨p9, 4, none⟩) (by show w.heap.size ≤ p9; omega) _
      clear hwq
      obtain ⟨wd, hwd⟩ : ∃ W : World, wq.drew = W := ⟨_, rfl⟩
      have e8 : Held wd p8 56 (T).arr := by rw [← hwd]; exact q8
      have e9 : Held wd p9 65 ({ S with suspects := S.suspects + 1 } : SumS).arr := by rw [← hwd]; exact q9
      have eA : Held wd (w.heap.size + 1) 56 #[.int .i64 0, .int .i64 0, .int .i64 0] := by rw [← hwd]; exact qA
      have eS : Held wd (w.heap.size + 1 + 1) 65 SumS.zero.arr := by rw [← hwd]; exact qS
      have eb : Below w.heap.size w wd := by rw [← hwd]; exact qb.drew
      have hsl : ({ S with suspects := S.suspects + 1 } : SumS).arr.size = 49 := SumS.arr_size _ HBS.out.hash
      have ITs : Hid ((Tryd.prog.info? 56).map (·.size) = some (T).arr.size) := Lib.hid tot_size
      have ISs : Hid ((Tryd.prog.info? 65).map (·.size) = some ({ S with suspects := S.suspects + 1 } : SumS).arr.size) := Lib.hid (by rw [sum_size, hsl])
      have hS : Held wd p8 56 (T).arr ∧ Held wd p9 65 ({ S with suspects := S.suspects + 1 } : SumS).arr := ⟨e8, e9⟩
      have hdl := eb.size
      refine wp_region_held (S := fun W => Held W p8 56 (T).arr ∧ Held W p9 65 ({ S with suspects := S.suspects + 1 } : SumS).arr) (by kernel_rfl) ?_
      change wpAnyH _ _ _ _ _ _ _ _ wq.drew
      rw [hwd]
      clear hwd
      refine wpAnyH_take (i := 0) (v := Value.agg (T).arr) rfl (by kernel_rfl) (by kernel_rfl) (by kernel_rfl) (fun _ _ _ h => h) ?y0_1001 hS ?r0_1001
      case y0_1001 => exact yieldsIf_load_held (by kernel_rfl) 56 (.tmp 8) rfl p8 56 (T).arr _ (by kernel_rfl) (fun _ h => h.1) Tryd.underlying56 (by kernel_rfl) ITs.out
      simp only [Act.put]
      try simp only [List.getElem_toArray, List.getElem_cons_zero]
      try simp only [List.setIfInBounds_toArray, List.set_cons_succ, List.set_cons_zero]
      refine wpAnyH_take (i := 1) (v := Value.agg ({ S with suspects := S.suspects + 1 } : SumS).arr) rfl (by kernel_rfl) (by kernel_rfl) (by kernel_rfl) (fun _ _ _ h => h) ?y1_1002 hS ?r1_1002
      case y1_1002 => exact yieldsIf_load_held (by kernel_rfl) 65 (.tmp 9) rfl p9 65 ({ S with suspects := S.suspects + 1 } : SumS).arr _ (by kernel_rfl) (fun _ h => h.2) Tryd.underlying65 (by kernel_rfl) ISs.out
      simp only [Act.put]
      try simp only [List.getElem_toArray, List.getElem_cons_succ, List.getElem_cons_zero]
      try simp only [List.setIfInBounds_toArray, List.set_cons_succ, List.set_cons_zero]
      refine wpAnyH_take (i := 2) (v := ?v2_1003) rfl (by kernel_rfl) (by kernel_rfl) (by kernel_rfl) (fun _ _ _ h => h) (Or.inl ⟨by rfl, ?y2_1003⟩) hS ?r2_1003
      case y2_1003 =>
        rintro W hH
        go_simp
        with_reducible rfl
      simp only [Act.put]
      try simp only [List.getElem_toArray, List.getElem_cons_succ, List.getElem_cons_zero]
      try simp only [List.setIfInBounds_toArray, List.set_cons_succ, List.set_cons_zero]
      refine wpAnyH_ready (rs := [3]) (by kernel_rfl) (by simp) ?_
      refine AllReadyH.cons rfl (fun K' hK' => ?_) AllReadyH.nil
      refine wp_store_held 56 (.tmp 4) (.tmp 82) rfl (w.heap.size + 1) 56 _ (T).arr (by kernel_rfl) (by kernel_rfl) eA (by rfl) ITs.out (tot_one _) ?_
      intro V3 rA b3 z3
      simp only [Act.put]
      replace eS := b3.held (by omega) eS
      replace eb := eb.trans (b3.below (by omega) (by omega))
      refine hK'.out _ _ ⟨b3.held (by omega) hS.1, b3.held (by omega) hS.2⟩ (fun hS => ?_)
      clear hK' K'
      refine wpAnyH_ready (rs := [4]) (by kernel_rfl) (by simp) ?_
      refine AllReadyH.cons rfl (fun K' hK' => ?_) AllReadyH.nil
      refine wp_store_held 65 (.tmp 5) (.tmp 83) rfl (w.heap.size + 1 + 1) 65 _ ({ S with suspects := S.suspects + 1 } : SumS).arr (by kernel_rfl) (by kernel_rfl) eS (by rw [hsl, SumS.arr_size _ rfl]) ISs.out (sum_one _) ?_
      intro V4 rS b4 z4
      simp only [Act.put]
      replace rA := b4.held (by omega) rA
      replace eb := eb.trans (b4.below (by omega) (by omega))
      refine hK'.out _ _ ⟨b4.held (by omega) hS.1, b4.held (by omega) hS.2⟩ (fun hS => ?_)
      clear hK' K'
      refine wpAnyH_take (i := 5) (v := ?v5_1004) rfl (by kernel_rfl) (by kernel_rfl) (by kernel_rfl) (fun _ _ _ h => h) (Or.inl ⟨by rfl, ?y5_1004⟩) hS ?r5_1004
      case y5_1004 =>
        rintro W hH
        go_simp
        with_reducible rfl
      simp only [Act.put]
      try simp only [List.getElem_toArray, List.getElem_cons_succ, List.getElem_cons_zero]
      try simp only [List.setIfInBounds_toArray, List.set_cons_succ, List.set_cons_zero]
      refine wpAnyH_done (by kernel_rfl) ?_ _
      go_wp2_with fail
      refine bodyPost_ret (results_cells2_tmp (t1 := 56) (t2 := 65) rfl _ _ _ _ _ _ _ _ _ _ (by kernel_rfl) (by kernel_rfl) rfl rA rS Tryd.underlying56 Tryd.underlying65 (by kernel_rfl) (by kernel_rfl) ITs.out ISs.out) rfl ?_
      exact ⟨by rw [HN.out]; rfl, eb⟩
    · have HN := HNX
      rw [hk1] at HN
      have HXK : Hid (x.kind = 3) := Lib.hid hk1
      rw [hk1] at xc0
      clear hk1 hk' HNX
      have HN2 : Hid (nextP b x = (T, { S with replaced := S.replaced + 1 }, 0)) := Lib.hid (by rw [HN.out, if_neg (by decide), if_pos rfl])
      replace HN := HN2
      clear HN2
      go_upto_region 18 with (fail)
      obtain ⟨wq, hwq⟩ : ∃ W, wv.setCell ⟨p9, 5, none⟩ (.int .i64 (S.replaced + 1)) = W := ⟨_, rfl⟩
      rw [hwq]
      have q8 : Held wq p8 56 T.arr := by rw [← hwq]; exact hT8.far (p := ⟨p9, 5, none⟩) (by show p8 ≠ p9; omega) _
      have q9 : Held wq p9 65 ({ S with replaced := S.replaced + 1 } : SumS).arr := by rw [← hwq]; have := hS9.set 5 (.int .i64 (S.replaced + 1)); simpa [SumS.arr, SumS.cells] using this
      have qA : Held wq (w.heap.size + 1) 56 #[.int .i64 0, .int .i64 0, .int .i64 0] := by rw [← hwq]; exact hAc.far (p := ⟨p9, 5, none⟩) (by show w.heap.size + 1 ≠ p9; omega) _
      have qS : Held wq (w.heap.size + 1 + 1) 65 SumS.zero.arr := by rw [← hwq]; exact hSc.far (p := ⟨p9, 5, none⟩) (by show w.heap.size + 1 + 1 ≠ p9; omega) _
      have qb : Below w.heap.size w wq := by rw [← hwq]; exact hb1c.setCell (p := ⟨p9, 5, none⟩) (by show w.heap.size ≤ p9; omega) _
      clear hwq
      obtain ⟨wd, hwd⟩ : ∃ W : World, wq.drew = W := ⟨_, rfl⟩
      have e8 : Held wd p8 56 (T).arr := by rw [← hwd]; exact q8
      have e9 : Held wd p9 65 ({ S with replaced := S.replaced + 1 } : SumS).arr := by rw [← hwd]; exact q9
      have eA : Held wd (w.heap.size + 1) 56 #[.int .i64 0, .int .i64 0, .int .i64 0] := by rw [← hwd]; exact qA
      have eS : Held wd (w.heap.size + 1 + 1) 65 SumS.zero.arr := by rw [← hwd]; exact qS
      have eb : Below w.heap.size w wd := by rw [← hwd]; exact qb.drew
      have hsl : ({ S with replaced := S.replaced + 1 } : SumS).arr.size = 49 := SumS.arr_size _ HBS.out.hash
      have ITs : Hid ((Tryd.prog.info? 56).map (·.size) = some (T).arr.size) := Lib.hid tot_size
      have ISs : Hid ((Tryd.prog.info? 65).map (·.size) = some ({ S with replaced := S.replaced + 1 } : SumS).arr.size) := Lib.hid (by rw [sum_size, hsl])
      have hS : Held wd p8 56 (T).arr ∧ Held wd p9 65 ({ S with replaced := S.replaced + 1 } : SumS).arr := ⟨e8, e9⟩
      have hdl := eb.size
      refine wp_region_held (S := fun W => Held W p8 56 (T).arr ∧ Held W p9 65 ({ S with replaced := S.replaced + 1 } : SumS).arr) (by kernel_rfl) ?_
      change wpAnyH _ _ _ _ _ _ _ _ wq.drew
      rw [hwd]
      clear hwd
      refine wpAnyH_take (i := 0) (v := Value.agg (T).arr) rfl (by kernel_rfl) (by kernel_rfl) (by kernel_rfl) (fun _ _ _ h => h) ?y0_2001 hS ?r0_2001
      case y0_2001 => exact yieldsIf_load_held (by kernel_rfl) 56 (.tmp 8) rfl p8 56 (T).arr _ (by kernel_rfl) (fun _ h => h.1) Tryd.underlying56 (by kernel_rfl) ITs.out
      simp only [Act.put]
      try simp only [List.getElem_toArray, List.getElem_cons_zero]
      try simp only [List.setIfInBounds_toArray, List.set_cons_succ, List.set_cons_zero]
      refine wpAnyH_take (i := 1) (v := Value.agg ({ S with replaced := S.replaced + 1 } : SumS).arr) rfl (by kernel_rfl) (by kernel_rfl) (by kernel_rfl) (fun _ _ _ h => h) ?y1_2002 hS ?r1_2002
      case y1_2002 => exact yieldsIf_load_held (by kernel_rfl) 65 (.tmp 9) rfl p9 65 ({ S with replaced := S.replaced + 1 } : SumS).arr _ (by kernel_rfl) (fun _ h => h.2) Tryd.underlying65 (by kernel_rfl) ISs.out
      simp only [Act.put]
      try simp only [List.getElem_toArray, List.getElem_cons_succ, List.getElem_cons_zero]
      try simp only [List.setIfInBounds_toArray, List.set_cons_succ, List.set_cons_zero]
      refine wpAnyH_take (i := 2) (v := ?v2_2003) rfl (by kernel_rfl) (by kernel_rfl) (by kernel_rfl) (fun _ _ _ h => h) (Or.inl ⟨by rfl, ?y2_2003⟩) hS ?r2_2003
      case y2_2003 =>
        rintro W hH
        go_simp
        with_reducible rfl
      simp only [Act.put]
      try simp only [List.getElem_toArray, List.getElem_cons_succ, List.getElem_cons_zero]
      try simp only [List.setIfInBounds_toArray, List.set_cons_succ, List.set_cons_zero]
      refine wpAnyH_ready (rs := [3]) (by kernel_rfl) (by simp) ?_
      refine AllReadyH.cons rfl (fun K' hK' => ?_) AllReadyH.nil
      refine wp_store_held 56 (.tmp 4) (.tmp 82) rfl (w.heap.size + 1) 56 _ (T).arr (by kernel_rfl) (by kernel_rfl) eA (by rfl) ITs.out (tot_one _) ?_
      intro V3 rA b3 z3
      simp only [Act.put]
      replace eS := b3.held (by omega) eS
      replace eb := eb.trans (b3.below (by omega) (by omega))
      refine hK'.out _ _ ⟨b3.held (by omega) hS.1, b3.held (by omega) hS.2⟩ (fun hS => ?_)
      clear hK' K'
      refine wpAnyH_ready (rs := [4]) (by kernel_rfl) (by simp) ?_
      refine AllReadyH.cons rfl (fun K' hK' => ?_) AllReadyH.nil
      refine wp_store_held 65 (.tmp 5) (.tmp 83) rfl (w.heap.size + 1 + 1) 65 _ ({ S with replaced := S.replaced + 1 } : SumS).arr (by kernel_rfl) (by kernel_rfl) eS (by rw [hsl, SumS.arr_size _ rfl]) ISs.out (sum_one _) ?_
      intro V4 rS b4 z4
      simp only [Act.put]
      replace rA := b4.held (by omega) rA
      replace eb := eb.trans (b4.below (by omega) (by omega))
      refine hK'.out _ _ ⟨b4.held (by omega) hS.1, b4.held (by omega) hS.2⟩ (fun hS => ?_)
      clear hK' K'
      refine wpAnyH_take (i := 5) (v := ?v5_2004) rfl (by kernel_rfl) (by kernel_rfl) (by kernel_rfl) (fun _ _ _ h => h) (Or.inl ⟨by rfl, ?y5_2004⟩) hS ?r5_2004
      case y5_2004 =>
        rintro W hH
        go_simp
        with_reducible rfl
      simp only [Act.put]
      try simp only [List.getElem_toArray, List.getElem_cons_succ, List.getElem_cons_zero]
      try simp only [List.setIfInBounds_toArray, List.set_cons_succ, List.set_cons_zero]
      refine wpAnyH_done (by kernel_rfl) ?_ _
      go_wp2_with fail
      refine bodyPost_ret (results_cells2_tmp (t1 := 56) (t2 := 65) rfl _ _ _ _ _ _ _ _ _ _ (by kernel_rfl) (by kernel_rfl) rfl rA rS Tryd.underlying56 Tryd.underlying65 (by kernel_rfl) (by kernel_rfl) ITs.out ISs.out) rfl ?_
      exact ⟨by rw [HN.out]; rfl, eb⟩
    · have HN := HNX
      rw [hk1] at HN
      have HXK : Hid (x.kind = 4) := Lib.hid hk1
      rw [hk1] at xc0
      clear hk1 hk' HNX
      obtain ⟨Sq, hSq⟩ : ∃ s : SumS, { S with corrected := S.corrected + 1 } = s := ⟨_, rfl⟩
      have hsq : Sq.ok (K + 1) := by rw [← hSq]; exact ⟨HBS.out.1, HBS.out.2.1, ⟨i31, by show S.intervals ≤ K + 1; omega⟩, ⟨i41, by show S.flagged ≤ K + 1; omega⟩, ⟨i51, by show S.suspects ≤ K + 1; omega⟩, ⟨i61, by show S.replaced ≤ K + 1; omega⟩, ⟨by show 0 ≤ S.corrected + 1; omega, by show S.corrected + 1 ≤ K + 1; omega⟩, HI8.out⟩
      have HN2 : Hid (nextP b x = ((amountsP T Sq x).1, (amountsP T Sq x).2.1, (amountsP T Sq x).2.2)) := Lib.hid (by rw [HN.out, if_neg (by decide), if_neg (by decide), if_neg (by decide), if_pos rfl, hSq])
      replace HN := HN2
      clear HN2
      go_upto_region 17 with (fail)
      obtain ⟨wq, hwq⟩ : ∃ W, wv.setCell ⟨p9, 6, none⟩ (.int .i64 (S.corrected + 1)) = W := ⟨_, rfl⟩
      have q9 : Held wq p9 65 Sq.arr := by rw [← hwq, ← hSq]; have := hS9.set 6 (.int .i64 (S.corrected + 1)); simpa [SumS.arr, SumS.cells] using this
      have hbq : But p9 wv wq := by rw [← hwq]; exact (But.refl p9 wv).set 6 _
      rw [hwq]
      clear hwq hSq
      have q8 := hbq.held (by omega) hT8
      have qX := hbq.held (by omega) hXc
      have qA := hbq.held (by omega) hAc
      have qS := hbq.held (by omega) hSc
      have qb := hb1c.trans (hbq.below (by omega) hb1c.size)
      clear hT8 hS9 hXc hAc hSc hb1c hbq xc0 xc7 sc0 sc1 sc2 sc3 sc4 sc5 sc6 sf2 sf3 sf4 sf5 sf6
      have HAM : Hid (∀ V, Calls Tryd.prog 42 #[.agg T.arr, .agg Sq.arr, .agg X] V fun e w' => e = .returned (.tuple #[.agg (amountsP T Sq x).1.arr, .agg (amountsP T Sq x).2.1.arr, .int .i64 (amountsP T Sq x).2.2]) ∧ Below V.heap.size V w') := Lib.hid (fun V => by rw [← HX.out]; exact amounts_any (K + 1) (by omega) T Sq x (HBK.out.mono (by omega)) hsq he1 he2 V)
      have hql : Sq.arr.size = 49 := SumS.arr_size _ hsq.hash
      have hal : (amountsP T Sq x).2.1.last.hash.length = 32 := hsq.hash
      have IT0 : Hid ((Tryd.prog.info? 56).map (·.size) = some T.arr.size) := Lib.hid tot_size
      have IS0 : Hid ((Tryd.prog.info? 65).map (·.size) = some Sq.arr.size) := Lib.hid (by rw [sum_size, hql])
      have IX0 : Hid ((Tryd.prog.info? 63).map (·.size) = some X.size) := Lib.hid (by rw [ent_size x hlen, HX.out])
      have IT1 : Hid ((Tryd.prog.info? 56).map (·.size) = some (amountsP T Sq x).1.arr.size) := Lib.hid tot_size
      have IS1 : Hid ((Tryd.prog.info? 65).map (·.size) = some (amountsP T Sq x).2.1.arr.size) := Lib.hid (by rw [sum_size, SumS.arr_size _ hal])
      have IZ1 : Hid ((amountsP T Sq x).2.1.arr.size = Sq.arr.size) := Lib.hid (by rw [SumS.arr_size _ hal, hql])
      have hqq := qb.size
      clear hql
      go_upto_region 18 with (first
        | (with_reducible refine wpList_load_held (dst := some 75) 56 (.tmp 8) p8 56 _ _ (by kernel_rfl) (by kernel_rfl) q8 Tryd.underlying56 (by kernel_rfl) IT0.out ?_; simp only [Act.put, List.setIfInBounds_toArray, List.set_cons_succ, List.set_cons_zero])
        | (with_reducible refine wpList_load_held (dst := some 76) 65 (.tmp 9) p9 65 _ _ (by kernel_rfl) (by kernel_rfl) q9 Tryd.underlying65 (by kernel_rfl) IS0.out ?_; simp only [Act.put, List.setIfInBounds_toArray, List.set_cons_succ, List.set_cons_zero])
        | (with_reducible refine wpList_load_held (dst := some 77) 63 (.tmp 3) w.heap.size 63 _ _ (by kernel_rfl) (by kernel_rfl) qX Tryd.underlying63 (by kernel_rfl) IX0.out ?_; simp only [Act.put, List.setIfInBounds_toArray, List.set_cons_succ, List.set_cons_zero])
        | (go_at_call 42; refine (HAM.out _).mono ?_; rintro e V5 ⟨rfl, hb5⟩; have r8 := q8.below hb5 q8.lt; have r9 := q9.below hb5 q9.lt; have rA5 := qA.below hb5 qA.lt; have rS5 := qS.below hb5 qS.lt; have rb := qb.trans (hb5.mono hqq))
        | (with_reducible refine wpList_store_held 56 (.tmp 8) (.tmp 79) p8 56 _ (amountsP T Sq x).1.arr (by kernel_rfl) (by kernel_rfl) (by kernel_rfl) r8 (by kernel_rfl) IT1.out (tot_one _) ?_; intro V6 u8 hb6 hz6; simp only [Act.put, List.setIfInBounds_toArray, List.set_cons_succ, List.set_cons_zero]; replace r9 := hb6.held (by omega) r9; replace rA5 := hb6.held (by omega) rA5; replace rS5 := hb6.held (by omega) rS5; replace rb := rb.trans (hb6.below (by omega) rb.size))
        | (with_reducible refine wpList_store_held 65 (.tmp 9) (.tmp 80) p9 65 _ (amountsP T Sq x).2.1.arr (by kernel_rfl) (by kernel_rfl) (by kernel_rfl) r9 IZ1.out IS1.out (sum_one _) ?_; intro wq' u9 hb7 hz7; simp only [Act.put, List.setIfInBounds_toArray, List.set_cons_succ, List.set_cons_zero]; replace u8 := hb7.held (by omega) u8; replace rA5 := hb7.held (by omega) rA5; replace rS5 := hb7.held (by omega) rS5; replace rb := rb.trans (hb7.below (by omega) rb.size)))
      clear q8 q9 qA qS qb qX hb5 hb6 hb7 hz6 hz7
      obtain ⟨wq, hwq⟩ : ∃ W, wq' = W := ⟨_, rfl⟩
      rw [hwq] at u8 u9 rA5 rS5 rb ⊢
      clear hwq
      have q8 := u8
      have q9 := u9
      have qA := rA5
      have qS := rS5
      have qb := rb
      clear u8 u9 rA5 rS5 rb
      obtain ⟨wd, hwd⟩ : ∃ W : World, wq.drew = W := ⟨_, rfl⟩
      have e8 : Held wd p8 56 ((amountsP T Sq x).1).arr := by rw [← hwd]; exact q8
      have e9 : Held wd p9 65 ((amountsP T Sq x).2.1).arr := by rw [← hwd]; exact q9
      have eA : Held wd (w.heap.size + 1) 56 #[.int .i64 0, .int .i64 0, .int .i64 0] := by rw [← hwd]; exact qA
      have eS : Held wd (w.heap.size + 1 + 1) 65 SumS.zero.arr := by rw [← hwd]; exact qS
      have eb : Below w.heap.size w wd := by rw [← hwd]; exact qb.drew
      have hsl : ((amountsP T Sq x).2.1).arr.size = 49 := SumS.arr_size _ hal
      have ITs : Hid ((Tryd.prog.info? 56).map (·.size) = some ((amountsP T Sq x).1).arr.size) := Lib.hid tot_size
      have ISs : Hid ((Tryd.prog.info? 65).map (·.size) = some ((amountsP T Sq x).2.1).arr.size) := Lib.hid (by rw [sum_size, hsl])
      have hS : Held wd p8 56 ((amountsP T Sq x).1).arr ∧ Held wd p9 65 ((amountsP T Sq x).2.1).arr := ⟨e8, e9⟩
      have hdl := eb.size
      refine wp_region_held (S := fun W => Held W p8 56 ((amountsP T Sq x).1).arr ∧ Held W p9 65 ((amountsP T Sq x).2.1).arr) (by kernel_rfl) ?_
      change wpAnyH _ _ _ _ _ _ _ _ wq.drew
      rw [hwd]
      clear hwd
      refine wpAnyH_take (i := 0) (v := Value.agg ((amountsP T Sq x).1).arr) rfl (by kernel_rfl) (by kernel_rfl) (by kernel_rfl) (fun _ _ _ h => h) ?y0_5001 hS ?r0_5001
      case y0_5001 => exact yieldsIf_load_held (by kernel_rfl) 56 (.tmp 8) rfl p8 56 ((amountsP T Sq x).1).arr _ (by kernel_rfl) (fun _ h => h.1) Tryd.underlying56 (by kernel_rfl) ITs.out
      simp only [Act.put]
      try simp only [List.getElem_toArray, List.getElem_cons_zero]
      try simp only [List.setIfInBounds_toArray, List.set_cons_succ, List.set_cons_zero]
      refine wpAnyH_take (i := 1) (v := Value.agg ((amountsP T Sq x).2.1).arr) rfl (by kernel_rfl) (by kernel_rfl) (by kernel_rfl) (fun _ _ _ h => h) ?y1_5002 hS ?r1_5002
      case y1_5002 => exact yieldsIf_load_held (by kernel_rfl) 65 (.tmp 9) rfl p9 65 ((amountsP T Sq x).2.1).arr _ (by kernel_rfl) (fun _ h => h.2) Tryd.underlying65 (by kernel_rfl) ISs.out
      simp only [Act.put]
      try simp only [List.getElem_toArray, List.getElem_cons_succ, List.getElem_cons_zero]
      try simp only [List.setIfInBounds_toArray, List.set_cons_succ, List.set_cons_zero]
      refine wpAnyH_take (i := 2) (v := ?v2_5003) rfl (by kernel_rfl) (by kernel_rfl) (by kernel_rfl) (fun _ _ _ h => h) (Or.inl ⟨by rfl, ?y2_5003⟩) hS ?r2_5003
      case y2_5003 =>
        rintro W hH
        go_simp
        with_reducible rfl
      simp only [Act.put]
      try simp only [List.getElem_toArray, List.getElem_cons_succ, List.getElem_cons_zero]
      try simp only [List.setIfInBounds_toArray, List.set_cons_succ, List.set_cons_zero]
      refine wpAnyH_ready (rs := [3]) (by kernel_rfl) (by simp) ?_
      refine AllReadyH.cons rfl (fun K' hK' => ?_) AllReadyH.nil
      refine wp_store_held 56 (.tmp 4) (.tmp 82) rfl (w.heap.size + 1) 56 _ ((amountsP T Sq x).1).arr (by kernel_rfl) (by kernel_rfl) eA (by rfl) ITs.out (tot_one _) ?_
      intro V3 rA b3 z3
      simp only [Act.put]
      replace eS := b3.held (by omega) eS
      replace eb := eb.trans (b3.below (by omega) (by omega))
      refine hK'.out _ _ ⟨b3.held (by omega) hS.1, b3.held (by omega) hS.2⟩ (fun hS => ?_)
      clear hK' K'
      refine wpAnyH_ready (rs := [4]) (by kernel_rfl) (by simp) ?_
      refine AllReadyH.cons rfl (fun K' hK' => ?_) AllReadyH.nil
      refine wp_store_held 65 (.tmp 5) (.tmp 83) rfl (w.heap.size + 1 + 1) 65 _ ((amountsP T Sq x).2.1).arr (by kernel_rfl) (by kernel_rfl) eS (by rw [hsl, SumS.arr_size _ rfl]) ISs.out (sum_one _) ?_
      intro V4 rS b4 z4
      simp only [Act.put]
      replace rA := b4.held (by omega) rA
      replace eb := eb.trans (b4.below (by omega) (by omega))
      refine hK'.out _ _ ⟨b4.held (by omega) hS.1, b4.held (by omega) hS.2⟩ (fun hS => ?_)
      clear hK' K'
      refine wpAnyH_take (i := 5) (v := ?v5_5004) rfl (by kernel_rfl) (by kernel_rfl) (by kernel_rfl) (fun _ _ _ h => h) (Or.inl ⟨by rfl, ?y5_5004⟩) hS ?r5_5004
      case y5_5004 =>
        rintro W hH
        go_simp
        with_reducible rfl
      simp only [Act.put]
      try simp only [List.getElem_toArray, List.getElem_cons_succ, List.getElem_cons_zero]
      try simp only [List.setIfInBounds_toArray, List.set_cons_succ, List.set_cons_zero]
      refine wpAnyH_done (by kernel_rfl) ?_ _
      go_wp2_with fail
      refine bodyPost_ret (results_cells2_tmp (t1 := 56) (t2 := 65) rfl _ _ _ _ _ _ _ _ _ _ (by kernel_rfl) (by kernel_rfl) rfl rA rS Tryd.underlying56 Tryd.underlying65 (by kernel_rfl) (by kernel_rfl) ITs.out ISs.out) rfl ?_
      exact ⟨by rw [HN.out]; rfl, eb⟩
    · have HN := HNX
      rw [hk1] at HN
      have HXK : Hid (x.kind = 5) := Lib.hid hk1
      rw [hk1] at xc0
      clear hk1 hk' HNX
      have HN2 : Hid (nextP b x = (T, S, 0)) := Lib.hid (by rw [HN.out, if_neg (by decide), if_neg (by decide), if_neg (by decide), if_neg (by decide)])
      replace HN := HN2
      clear HN2
      go_upto_region 18 with (fail)
      obtain ⟨wq, hwq⟩ : ∃ W, wv = W := ⟨_, rfl⟩
      rw [hwq] at hT8 hS9 hAc hSc hb1c ⊢
      have q8 := hT8
      have q9 := hS9
      have qA : Held wq (w.heap.size + 1) 56 #[.int .i64 0, .int .i64 0, .int .i64 0] := hAc
      have qS := hSc
      have qb := hb1c
      clear hwq
      obtain ⟨wd, hwd⟩ : ∃ W : World, wq.drew = W := ⟨_, rfl⟩
      have e8 : Held wd p8 56 (T).arr := by rw [← hwd]; exact q8
      have e9 : Held wd p9 65 (S).arr := by rw [← hwd]; exact q9
      have eA : Held wd (w.heap.size + 1) 56 #[.int .i64 0, .int .i64 0, .int .i64 0] := by rw [← hwd]; exact qA
      have eS : Held wd (w.heap.size + 1 + 1) 65 SumS.zero.arr := by rw [← hwd]; exact qS
      have eb : Below w.heap.size w wd := by rw [← hwd]; exact qb.drew
      have hsl : (S).arr.size = 49 := SumS.arr_size _ HBS.out.hash
      have ITs : Hid ((Tryd.prog.info? 56).map (·.size) = some (T).arr.size) := Lib.hid tot_size
      have ISs : Hid ((Tryd.prog.info? 65).map (·.size) = some (S).arr.size) := Lib.hid (by rw [sum_size, hsl])
      have hS : Held wd p8 56 (T).arr ∧ Held wd p9 65 (S).arr := ⟨e8, e9⟩
      have hdl := eb.size
      refine wp_region_held (S := fun W => Held W p8 56 (T).arr ∧ Held W p9 65 (S).arr) (by kernel_rfl) ?_
      change wpAnyH _ _ _ _ _ _ _ _ wq.drew
      rw [hwd]
      clear hwd
      refine wpAnyH_take (i := 0) (v := Value.agg (T).arr) rfl (by kernel_rfl) (by kernel_rfl) (by kernel_rfl) (fun _ _ _ h => h) ?y0_3001 hS ?r0_3001
      case y0_3001 => exact yieldsIf_load_held (by kernel_rfl) 56 (.tmp 8) rfl p8 56 (T).arr _ (by kernel_rfl) (fun _ h => h.1) Tryd.underlying56 (by kernel_rfl) ITs.out
      simp only [Act.put]
      try simp only [List.getElem_toArray, List.getElem_cons_zero]
      try simp only [List.setIfInBounds_toArray, List.set_cons_succ, List.set_cons_zero]
      refine wpAnyH_take (i := 1) (v := Value.agg (S).arr) rfl (by kernel_rfl) (by kernel_rfl) (by kernel_rfl) (fun _ _ _ h => h) ?y1_3002 hS ?r1_3002
      case y1_3002 => exact yieldsIf_load_held (by kernel_rfl) 65 (.tmp 9) rfl p9 65 (S).arr _ (by kernel_rfl) (fun _ h => h.2) Tryd.underlying65 (by kernel_rfl) ISs.out
      simp only [Act.put]
      try simp only [List.getElem_toArray, List.getElem_cons_succ, List.getElem_cons_zero]
      try simp only [List.setIfInBounds_toArray, List.set_cons_succ, List.set_cons_zero]
      refine wpAnyH_take (i := 2) (v := ?v2_3003) rfl (by kernel_rfl) (by kernel_rfl) (by kernel_rfl) (fun _ _ _ h => h) (Or.inl ⟨by rfl, ?y2_3003⟩) hS ?r2_3003
      case y2_3003 =>
        rintro W hH
        go_simp
        with_reducible rfl
      simp only [Act.put]
      try simp only [List.getElem_toArray, List.getElem_cons_succ, List.getElem_cons_zero]
      try simp only [List.setIfInBounds_toArray, List.set_cons_succ, List.set_cons_zero]
      refine wpAnyH_ready (rs := [3]) (by kernel_rfl) (by simp) ?_
      refine AllReadyH.cons rfl (fun K' hK' => ?_) AllReadyH.nil
      refine wp_store_held 56 (.tmp 4) (.tmp 82) rfl (w.heap.size + 1) 56 _ (T).arr (by kernel_rfl) (by kernel_rfl) eA (by rfl) ITs.out (tot_one _) ?_
      intro V3 rA b3 z3
      simp only [Act.put]
      replace eS := b3.held (by omega) eS
      replace eb := eb.trans (b3.below (by omega) (by omega))
      refine hK'.out _ _ ⟨b3.held (by omega) hS.1, b3.held (by omega) hS.2⟩ (fun hS => ?_)
      clear hK' K'
      refine wpAnyH_ready (rs := [4]) (by kernel_rfl) (by simp) ?_
      refine AllReadyH.cons rfl (fun K' hK' => ?_) AllReadyH.nil
      refine wp_store_held 65 (.tmp 5) (.tmp 83) rfl (w.heap.size + 1 + 1) 65 _ (S).arr (by kernel_rfl) (by kernel_rfl) eS (by rw [hsl, SumS.arr_size _ rfl]) ISs.out (sum_one _) ?_
      intro V4 rS b4 z4
      simp only [Act.put]
      replace rA := b4.held (by omega) rA
      replace eb := eb.trans (b4.below (by omega) (by omega))
      refine hK'.out _ _ ⟨b4.held (by omega) hS.1, b4.held (by omega) hS.2⟩ (fun hS => ?_)
      clear hK' K'
      refine wpAnyH_take (i := 5) (v := ?v5_3004) rfl (by kernel_rfl) (by kernel_rfl) (by kernel_rfl) (fun _ _ _ h => h) (Or.inl ⟨by rfl, ?y5_3004⟩) hS ?r5_3004
      case y5_3004 =>
        rintro W hH
        go_simp
        with_reducible rfl
      simp only [Act.put]
      try simp only [List.getElem_toArray, List.getElem_cons_succ, List.getElem_cons_zero]
      try simp only [List.setIfInBounds_toArray, List.set_cons_succ, List.set_cons_zero]
      refine wpAnyH_done (by kernel_rfl) ?_ _
      go_wp2_with fail
      refine bodyPost_ret (results_cells2_tmp (t1 := 56) (t2 := 65) rfl _ _ _ _ _ _ _ _ _ _ (by kernel_rfl) (by kernel_rfl) rfl rA rS Tryd.underlying56 Tryd.underlying65 (by kernel_rfl) (by kernel_rfl) ITs.out ISs.out) rfl ?_
      exact ⟨by rw [HN.out]; rfl, eb⟩
end Go.Proofs.YtnnknnaimabehaaDoor
