/- civil.Parse. -/
import Derived.Test.YtgeocjodkkkiiaaDoorCivNames
import Derived.Laws.Strings
namespace Go.Proofs.YtgeocjodkkkiiaaDoor
open Go.RowKit

theorem str_ne {A s : ByteArray} (h : A ≠ s) : (A.toList == s.toList) = false := by
  rw [ByteArray.toList_eq, ByteArray.toList_eq]
  have : A.data.toList ≠ s.data.toList := fun e => h (by apply ByteArray.ext; apply Array.ext'; exact e)
  simpa using this
/-- The number in this part of a text. -/
def numAt (s : ByteArray) (a b : Nat) : Int := numL (((bytesS s).drop a).take (b - a)) 0
/-- A text is a date's. -/
def parB (s : ByteArray) : Bool := decide (s.size = 10) && mayB (numAt s 0 4) (numAt s 5 7) (numAt s 8 10) && decide (strU (dateL (numAt s 0 4) (numAt s 5 7) (numAt s 8 10)) = s)
def parV (s : ByteArray) : Value := if parB s = true then .tuple #[.agg #[.int .i64 (numAt s 0 4), .int .i64 (numAt s 5 7), .int .i64 (numAt s 8 10)], .int .i64 0] else .tuple #[.agg #[.int .i64 0, .int .i64 0, .int .i64 0], .int .i64 60]

set_option maxRecDepth 100000 in
set_option maxHeartbeats 4000000 in
theorem parse_own (s : ByteArray) (w : World) (T : Lens w) (hP : P10 w) : Calls Tryd.prog 31 #[.string s] w fun e w' => e = .returned (parV s) ∧ Below w.heap.size w w' := by
  by_cases h : s.size = 10
  case neg =>
    have HV := Lib.hid (show parV s = .tuple #[.agg #[.int .i64 0, .int .i64 0, .int .i64 0], .int .i64 60] by simp [parV, parB, h])
    rw [HV.out]
    exact parse_short s h w
  have HT := Lib.hid T
  have HPP := Lib.hid hP
  have HV := Lib.hid (show parV s = if (mayB (numAt s 0 4) (numAt s 5 7) (numAt s 8 10) && decide (strU (dateL (numAt s 0 4) (numAt s 5 7) (numAt s 8 10)) = s)) = true then .tuple #[.agg #[.int .i64 (numAt s 0 4), .int .i64 (numAt s 5 7), .int .i64 (numAt s 8 10)], .int .i64 0] else .tuple #[.agg #[.int .i64 0, .int .i64 0, .int .i64 0], .int .i64 60] by simp [parV, parB, h])
  have C1 := Lib.hid (fun W => part_own s 0 4 (by omega) (by omega) (by omega) W)
  have C2 := Lib.hid (fun W => part_own s 5 7 (by omega) (by omega) (by omega) W)
  have C3 := Lib.hid (fun W => part_own s 8 10 (by omega) (by omega) (by omega) W)
  have E1 := Lib.hid (show numL (((bytesS s).drop 0).take (4 - 0)) 0 = numAt s 0 4 from rfl)
  have E2 := Lib.hid (show numL (((bytesS s).drop 5).take (7 - 5)) 0 = numAt s 5 7 from rfl)
  have E3 := Lib.hid (show numL (((bytesS s).drop 8).take (10 - 8)) 0 = numAt s 8 10 from rfl)
  clear T hP
  have hX := Held.new w 23 #[.int .i64 0, .int .i64 0, .int .i64 0]
  have b := below_alloc (Below.refl w.heap.size w) (Obj.cells #[.int .i64 0, .int .i64 0, .int .i64 0] 23)
  have zx : w.heap.size < (w.alloc (Obj.cells #[.int .i64 0, .int .i64 0, .int .i64 0] 23)).heap.size := by simp
  go_in
  go_wp2_with fail
  refine (C1.out _).mono ?_
  rintro e w1 ⟨rfl, hb⟩
  rw [E1.out]
  have b := below_step b hb
  have hX := hX.below hb zx
  have zx : w.heap.size < w1.heap.size := by have := hb.size; omega
  clear hb
  go_wp2_with fail
  refine (C2.out _).mono ?_
  rintro e w2 ⟨rfl, hb⟩
  rw [E2.out]
  have b := below_step b hb
  have hX := hX.below hb zx
  have zx : w.heap.size < w2.heap.size := by have := hb.size; omega
  clear hb
  go_wp2_with fail
  refine (C3.out _).mono ?_
  rintro e w3 ⟨rfl, hb⟩
  rw [E3.out]
  have b := below_step b hb
  have hX := hX.below hb zx
  have zx : w.heap.size < w3.heap.size := by have := hb.size; omega
  clear hb C1 C2 C3 E1 E2 E3
  generalize numAt s 0 4 = Y at HV ⊢
  generalize numAt s 5 7 = M at HV ⊢
  generalize numAt s 8 10 = D at HV ⊢
  go_wp2_with fail
  have hZ := Held.new w3 23 #[.int .i64 Y, .int .i64 M, .int .i64 D]
  have b := below_alloc b (Obj.cells #[.int .i64 Y, .int .i64 M, .int .i64 D] 23)
  have hX := hX.alloc (Obj.cells #[.int .i64 Y, .int .i64 M, .int .i64 D] 23)
  have zz : w3.heap.size < (w3.alloc (Obj.cells #[.int .i64 Y, .int .i64 M, .int .i64 D] 23)).heap.size := by simp
  generalize w3.alloc (Obj.cells #[.int .i64 Y, .int .i64 M, .int .i64 D] 23) = w4 at hX b hZ zz ⊢
  cases hm : mayB Y M D with
  | false =>
    rw [hm] at HV
    refine (text_no Y M D _ (HT.out.up b) hm).mono ?_
    rintro e w5 ⟨rfl, hb⟩
    have b := below_step b hb
    have hX := hX.below hb (by omega)
    clear hb
    have a0 := hX.cell 0
    have a1 := hX.cell 1
    have a2 := hX.cell 2
    simp only [List.getElem?_toArray, List.getElem?_cons_zero, List.getElem?_cons_succ] at a0 a1 a2
    have f0 := hX.frozen 0
    have f1 := hX.frozen 1
    have f2 := hX.frozen 2
    go_wp2
    have hR := ((hX.set 0 (.int .i64 0)).set 1 (.int .i64 0)).set 2 (.int .i64 0)
    simp only [List.setIfInBounds_toArray, List.set_cons_zero, List.set_cons_succ] at hR
    refine bodyPost_ret (results_date _ rfl _ _ _ _ _ _ _ rfl rfl hR) rfl ⟨by rw [HV.out]; rfl, ?_⟩
    exact ((b.setCell (p := ⟨w.heap.size, 0, none⟩) (Nat.le_refl _) _).setCell (p := ⟨w.heap.size, 1, none⟩) (Nat.le_refl _) _).setCell (p := ⟨w.heap.size, 2, none⟩) (Nat.le_refl _) _
  | true =>
    rw [hm] at HV
    refine (text_yes Y M D _ (HT.out.up b) (tabIs_up HPP.out b) hm).mono ?_
    rintro e w5 ⟨rfl, hb⟩
    have b := below_step b hb
    have hX := hX.below hb (by omega)
    have hZ := hZ.below hb zz
    clear hb
    have a0 := hX.cell 0
    have a1 := hX.cell 1
    have a2 := hX.cell 2
    have z0 := hZ.cell 0
    have z1 := hZ.cell 1
    have z2 := hZ.cell 2
    simp only [List.getElem?_toArray, List.getElem?_cons_zero, List.getElem?_cons_succ] at a0 a1 a2 z0 z1 z2
    have f0 := hX.frozen 0
    have f1 := hX.frozen 1
    have f2 := hX.frozen 2
    generalize strU (dateL Y M D) = A at HV ⊢
    by_cases hs : A = s
    · have HV' := Lib.hid (HV.out.trans (if_pos (by simp [hs])))
      clear HV
      subst hs
      go_wp2
      have hR := ((hX.set 0 (.int .i64 Y)).set 1 (.int .i64 M)).set 2 (.int .i64 D)
      simp only [List.setIfInBounds_toArray, List.set_cons_zero, List.set_cons_succ] at hR
      refine bodyPost_ret (results_date _ rfl _ _ _ _ _ _ _ rfl rfl hR) rfl ⟨congrArg _ HV'.out.symm, ?_⟩
      exact ((b.setCell (p := ⟨w.heap.size, 0, none⟩) (Nat.le_refl _) _).setCell (p := ⟨w.heap.size, 1, none⟩) (Nat.le_refl _) _).setCell (p := ⟨w.heap.size, 2, none⟩) (Nat.le_refl _) _
    · have HV' := Lib.hid (HV.out.trans (if_neg (by simp [hs])))
      clear HV
      have sn := str_ne hs
      go_wp2
      have hR := ((hX.set 0 (.int .i64 0)).set 1 (.int .i64 0)).set 2 (.int .i64 0)
      simp only [List.setIfInBounds_toArray, List.set_cons_zero, List.set_cons_succ] at hR
      refine bodyPost_ret (results_date _ rfl _ _ _ _ _ _ _ rfl rfl hR) rfl ⟨congrArg _ HV'.out.symm, ?_⟩
      exact ((b.setCell (p := ⟨w.heap.size, 0, none⟩) (Nat.le_refl _) _).setCell (p := ⟨w.heap.size, 1, none⟩) (Nat.le_refl _) _).setCell (p := ⟨w.heap.size, 2, none⟩) (Nat.le_refl _) _
end Go.Proofs.YtgeocjodkkkiiaaDoor
