/- The law CivilNames: its walk. -/
import Derived.Test.YtgeocjodkkkiiaaDoorCivTextAt
import Derived.Test.YtgeocjodkkkiiaaDoorCivNth
import Derived.Test.YtgeocjodkkkiiaaDoorCivAt
namespace Go.Proofs.YtgeocjodkkkiiaaDoor
open Go.RowKit

set_option maxHeartbeats 1000000 in
theorem parse_short (s : ByteArray) (h : s.size ≠ 10) (w : World) : Calls Tryd.prog 31 #[.string s] w fun e w' => e = .returned (.tuple #[.agg #[.int .i64 0, .int .i64 0, .int .i64 0], .int .i64 60]) ∧ Below w.heap.size w w' := by
  have g1 : ((s.size : Int) != 10) = true := by simp; omega
  have g2 : ((s.size : Int) == 10) = false := by simp; omega
  go_in
  go_wp2
  exact bodyPost_ret (v := .tuple #[.agg #[.int .i64 0, .int .i64 0, .int .i64 0], .int .i64 60]) (by simp [results, Tryd.results31, go_sem]) rfl ⟨rfl, below_alloc (Below.refl _ _) _⟩

theorem nm_date : IsD (86399 / 86400) 1970 1 1 := ⟨by decide +kernel, by decide +kernel⟩
theorem nm_last : IsD 2932896 9999 12 31 := ⟨by decide +kernel, by decide +kernel⟩
theorem nm_text : strU (momL 1970 1 1 23 59 59) = ⟨#[49, 57, 55, 48, 45, 48, 49, 45, 48, 49, 84, 50, 51, 58, 53, 57, 58, 53, 57]⟩ := by decide +kernel

set_option maxRecDepth 100000 in
set_option maxHeartbeats 8000000 in
theorem law_names (w : World) (T : Lens w) (hP : P10 w) : Calls Tryd.prog 9 #[] w fun e w' => e = .returned (.bool true) ∧ Below w.heap.size w w' := by
  have HT := Lib.hid T
  have HPP := Lib.hid hP
  have V1 := Lib.hid (show insV 2026 11 15 12 0 0 = 1794744000 ∧ insE 2026 11 15 12 0 0 = 0 from ⟨by decide +kernel, by decide +kernel⟩)
  have V2 := Lib.hid (show dayE 2001 2 29 = 60 from by decide +kernel)
  have V3 := Lib.hid (show nthB 2026 3 7 (-1) = true ∧ nthD 2026 3 7 (-1) = 29 from ⟨by decide +kernel, by decide +kernel⟩)
  have V4 := Lib.hid (show nthB 2026 2 1 5 = false from by decide +kernel)
  have V5 := Lib.hid (show okB 1970 1 1 23 59 59 = true from by decide +kernel)
  have V6 := Lib.hid (show wdN 0 = 4 ∧ wdN (-1) = 0 from ⟨by decide +kernel, by decide +kernel⟩)
  have dg := date_guard
  have de1 := fun (w : World) => date_same w 2026 3 29
  have de2 := fun (w : World) => date_same w 9999 12 31
  clear T hP
  go_in
  go_wp2_with fail
  refine (instant_own 2026 11 15 12 0 0 _ HT.out).mono ?_
  rintro e w1 ⟨rfl, b⟩
  rw [V1.out.1, V1.out.2]
  go_wp2_with fail
  refine (at_in 86399 (by omega) (by omega) _ (HT.out.up b)).mono ?_
  rintro e w2 ⟨⟨y, m, d, hi, rfl⟩, hb2⟩
  obtain ⟨rfl, rfl, rfl⟩ := isD_one hi nm_date
  clear hi
  have b := below_step b hb2
  clear hb2
  have hM := Held.new w2 41 #[.int .i64 1970, .int .i64 1, .int .i64 1, .int .i64 23, .int .i64 59, .int .i64 59]
  have b := below_alloc b (Obj.cells #[.int .i64 1970, .int .i64 1, .int .i64 1, .int .i64 23, .int .i64 59, .int .i64 59] 41)
  have zm : w2.heap.size < (w2.alloc (Obj.cells #[.int .i64 1970, .int .i64 1, .int .i64 1, .int .i64 23, .int .i64 59, .int .i64 59] 41)).heap.size := by simp
  go_wp2_with fail
  generalize w2.alloc (Obj.cells #[.int .i64 1970, .int .i64 1, .int .i64 1, .int .i64 23, .int .i64 59, .int .i64 59] 41) = w3 at hM b zm ⊢
  refine (day_own 2001 2 29 _ (HT.out.up b)).mono ?_
  rintro e w4 ⟨rfl, hb⟩
  rw [V2.out]
  have b := below_step b hb
  have hM := hM.below hb zm
  have zm : w2.heap.size < w4.heap.size := by have := hb.size; omega
  clear hb
  go_wp2_with fail
  refine (nth_own 2026 3 7 (-1) _ (HT.out.up b)).mono ?_
  rintro e w5 ⟨he, hb⟩
  rw [V3.out.1, if_pos rfl, V3.out.2] at he
  subst he
  have b := below_step b hb
  have hM := hM.below hb zm
  have zm : w2.heap.size < w5.heap.size := by have := hb.size; omega
  clear hb
  go_wp2_with fail
  have hD := Held.new w5 23 #[.int .i64 2026, .int .i64 3, .int .i64 29]
  have b := below_alloc b (Obj.cells #[.int .i64 2026, .int .i64 3, .int .i64 29] 23)
  have hM := hM.alloc (Obj.cells #[.int .i64 2026, .int .i64 3, .int .i64 29] 23)
  have zd : w5.heap.size < (w5.alloc (Obj.cells #[.int .i64 2026, .int .i64 3, .int .i64 29] 23)).heap.size := by simp
  generalize w5.alloc (Obj.cells #[.int .i64 2026, .int .i64 3, .int .i64 29] 23) = w6 at hM b hD zd ⊢
  refine (nth_own 2026 2 1 5 _ (HT.out.up b)).mono ?_
  rintro e w7 ⟨he, hb⟩
  rw [V4.out, if_neg (by decide)] at he
  subst he
  have b := below_step b hb
  have hM := hM.below hb (by omega)
  have hD := hD.below hb (by omega)
  have zd : w5.heap.size < w7.heap.size := by have := hb.size; omega
  clear hb
  go_wp2_with fail
  have b := below_alloc b (Obj.cells #[.int .i64 0, .int .i64 0, .int .i64 0] 23)
  have hM := hM.alloc (Obj.cells #[.int .i64 0, .int .i64 0, .int .i64 0] 23)
  have hD := hD.alloc (Obj.cells #[.int .i64 0, .int .i64 0, .int .i64 0] 23)
  have zd : w5.heap.size < (w7.alloc (Obj.cells #[.int .i64 0, .int .i64 0, .int .i64 0] 23)).heap.size := by simp; omega
  generalize w7.alloc (Obj.cells #[.int .i64 0, .int .i64 0, .int .i64 0] 23) = w8 at hM b hD zd ⊢
  refine (of_in 2932896 (by omega) (by omega) _ (HT.out.up b)).mono ?_
  rintro e w9 ⟨⟨y, m, d, hi, rfl⟩, hb⟩
  obtain ⟨rfl, rfl, rfl⟩ := isD_one hi nm_last
  clear hi
  have b := below_step b hb
  have hM := hM.below hb (by omega)
  have hD := hD.below hb (by omega)
  have zd : w5.heap.size < w9.heap.size := by have := hb.size; omega
  clear hb
  go_wp2_with fail
  have hL := Held.new w9 23 #[.int .i64 9999, .int .i64 12, .int .i64 31]
  have b := below_alloc b (Obj.cells #[.int .i64 9999, .int .i64 12, .int .i64 31] 23)
  have hM := hM.alloc (Obj.cells #[.int .i64 9999, .int .i64 12, .int .i64 31] 23)
  have hD := hD.alloc (Obj.cells #[.int .i64 9999, .int .i64 12, .int .i64 31] 23)
  have zl : w9.heap.size < (w9.alloc (Obj.cells #[.int .i64 9999, .int .i64 12, .int .i64 31] 23)).heap.size := by simp
  generalize w9.alloc (Obj.cells #[.int .i64 9999, .int .i64 12, .int .i64 31] 23) = w10 at hM b hD hL zl ⊢
  refine (of_no 2932897 (by omega) _).mono ?_
  rintro e w11 ⟨rfl, hb⟩
  have b := below_step b hb
  have hM := hM.below hb (by omega)
  have hD := hD.below hb (by omega)
  have hL := hL.below hb (by omega)
  have zl : w9.heap.size < w11.heap.size := by have := hb.size; omega
  clear hb
  go_wp2_with fail
  have b := below_alloc b (Obj.cells #[.int .i64 0, .int .i64 0, .int .i64 0] 23)
  have hM := hM.alloc (Obj.cells #[.int .i64 0, .int .i64 0, .int .i64 0] 23)
  have hD := hD.alloc (Obj.cells #[.int .i64 0, .int .i64 0, .int .i64 0] 23)
  have hL := hL.alloc (Obj.cells #[.int .i64 0, .int .i64 0, .int .i64 0] 23)
  have zl : w9.heap.size < (w11.alloc (Obj.cells #[.int .i64 0, .int .i64 0, .int .i64 0] 23)).heap.size := by simp; omega
  generalize w11.alloc (Obj.cells #[.int .i64 0, .int .i64 0, .int .i64 0] 23) = w12 at hM b hD hL zl ⊢
  refine (at_no (-1) (by omega) _).mono ?_
  rintro e w13 ⟨rfl, hb⟩
  have b := below_step b hb
  have hM := hM.below hb (by omega)
  have hD := hD.below hb (by omega)
  have hL := hL.below hb (by omega)
  have zl : w9.heap.size < w13.heap.size := by have := hb.size; omega
  clear hb
  have zmm : w2.heap.size < w13.heap.size := by omega
  have a0 := hM.cell 0
  have a1 := hM.cell 1
  have a2 := hM.cell 2
  have a3 := hM.cell 3
  have a4 := hM.cell 4
  have a5 := hM.cell 5
  simp only [List.getElem?_toArray, List.getElem?_cons_zero, List.getElem?_cons_succ] at a0 a1 a2 a3 a4 a5
  go_wp2_with fail
  clear a0 a1 a2 a3 a4 a5
  have b := below_alloc b (Obj.cells #[.int .i64 0, .int .i64 0, .int .i64 0, .int .i64 0, .int .i64 0, .int .i64 0] 41)
  have hM := hM.alloc (Obj.cells #[.int .i64 0, .int .i64 0, .int .i64 0, .int .i64 0, .int .i64 0, .int .i64 0] 41)
  have hD := hD.alloc (Obj.cells #[.int .i64 0, .int .i64 0, .int .i64 0, .int .i64 0, .int .i64 0, .int .i64 0] 41)
  have hL := hL.alloc (Obj.cells #[.int .i64 0, .int .i64 0, .int .i64 0, .int .i64 0, .int .i64 0, .int .i64 0] 41)
  have zl : w9.heap.size < (w13.alloc (Obj.cells #[.int .i64 0, .int .i64 0, .int .i64 0, .int .i64 0, .int .i64 0, .int .i64 0] 41)).heap.size := by simp; omega
  generalize w13.alloc (Obj.cells #[.int .i64 0, .int .i64 0, .int .i64 0, .int .i64 0, .int .i64 0, .int .i64 0] 41) = w14 at hM b hD hL zl ⊢
  refine (textat_yes 1970 1 1 23 59 59 _ (HT.out.up b) (tabIs_up HPP.out b) V5.out).mono ?_
  rintro e w15 ⟨rfl, hb⟩
  rw [nm_text]
  have b := below_step b hb
  have hD := hD.below hb (by omega)
  have hL := hL.below hb (by omega)
  have zl : w9.heap.size < w15.heap.size := by have := hb.size; omega
  clear hb
  go_wp2_with fail
  refine (parse_short _ (by decide) _).mono ?_
  rintro e w16 ⟨rfl, hb⟩
  have b := below_step b hb
  have hD := hD.below hb (by omega)
  have hL := hL.below hb (by omega)
  have zl : w9.heap.size < w16.heap.size := by have := hb.size; omega
  clear hb
  go_wp2_with fail
  have b := below_alloc b (Obj.cells #[.int .i64 0, .int .i64 0, .int .i64 0] 23)
  have hD := hD.alloc (Obj.cells #[.int .i64 0, .int .i64 0, .int .i64 0] 23)
  have hL := hL.alloc (Obj.cells #[.int .i64 0, .int .i64 0, .int .i64 0] 23)
  have zl : w9.heap.size < (w16.alloc (Obj.cells #[.int .i64 0, .int .i64 0, .int .i64 0] 23)).heap.size := by simp; omega
  generalize w16.alloc (Obj.cells #[.int .i64 0, .int .i64 0, .int .i64 0] 23) = w17 at b hD hL zl ⊢
  refine (alive_any _ (HT.out.up b)).mono ?_
  rintro e w18 ⟨rfl, hb⟩
  have b := below_step b hb
  have hD := hD.below hb (by omega)
  have hL := hL.below hb (by omega)
  have d0 := hD.cell 0
  have d1 := hD.cell 1
  have d2 := hD.cell 2
  have l0 := hL.cell 0
  have l1 := hL.cell 1
  have l2 := hL.cell 2
  simp only [List.getElem?_toArray, List.getElem?_cons_zero, List.getElem?_cons_succ] at d0 d1 d2 l0 l1 l2
  clear hb
  go_wp2_with (first | (go_at_call 20; (with_reducible refine (weekday_own 0 _).mono ?_); rintro e w' ⟨rfl, rfl⟩; rw [V6.out.1]) | (go_at_call 20; (with_reducible refine (weekday_own (-1) _).mono ?_); rintro e w' ⟨rfl, rfl⟩; rw [V6.out.2]))
  go_ret
  exact ⟨rfl, b⟩
end Go.Proofs.YtgeocjodkkkiiaaDoor
