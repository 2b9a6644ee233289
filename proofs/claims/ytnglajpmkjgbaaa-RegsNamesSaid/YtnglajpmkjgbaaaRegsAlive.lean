/- kilowattlaw02.alive: the chapter's first examples. -/
import Derived.Test.YtnglajpmkjgbaaaRegsLaws
import Derived.Test.YtnglajpmkjgbaaaMemB
namespace Go.Proofs.Ytnglajpmkjgbaaa
open Go.RowKit

theorem alive_1 : wordsX 16909060 2 1 = [258, 772] ∧ wordsE 16909060 2 1 = 0 := by decide
theorem alive_2 : wordsX 16909060 2 2 = [772, 258] ∧ wordsE 16909060 2 2 = 0 := by decide
theorem alive_3 : wordsX 16909060 2 3 = [513, 1027] ∧ wordsE 16909060 2 3 = 0 := by decide
theorem alive_4 : wordsX 16909060 2 4 = [1027, 513] ∧ wordsE 16909060 2 4 = 0 := by decide

theorem alive_any (w : World) : Calls Try.prog 19 #[] w fun e w' => e = .returned (.bool true) ∧ Below w.heap.size w w' := by
  go_in
  go_wp2_with fail
  refine (words_sl 16909060 2 1 (by omega) (by omega) _).mono ?_
  rintro e w1 ⟨A1, n1, c1, rfl, hs1, hb1⟩
  rw [alive_1.1] at hs1; rw [alive_1.2]
  have HS1 := Lib.hid hs1
  clear hs1
  go_wp2_with fail
  refine (words_sl 16909060 2 2 (by omega) (by omega) _).mono ?_
  rintro e w2 ⟨A2, n2, c2, rfl, hs2, hb2⟩
  rw [alive_2.1] at hs2; rw [alive_2.2]
  have HS2 := Lib.hid hs2
  clear hs2
  go_wp2_with fail
  refine (words_sl 16909060 2 3 (by omega) (by omega) _).mono ?_
  rintro e w3 ⟨A3, n3, c3, rfl, hs3, hb3⟩
  rw [alive_3.1] at hs3; rw [alive_3.2]
  have HS3 := Lib.hid hs3
  clear hs3
  go_wp2_with fail
  refine (words_sl 16909060 2 4 (by omega) (by omega) _).mono ?_
  rintro e w4 ⟨A4, n4, c4, rfl, hs4, hb4⟩
  rw [alive_4.1] at hs4; rw [alive_4.2]
  have HS4 := Lib.hid hs4
  clear hs4
  go_wp2_with fail
  refine (same_sl A1 (some ⟨w4.heap.size, 0, none⟩) n1 2 c1 2 [258, 772] [258, 772] _ (((((HS1.out).up hb2).up hb3).up hb4).alloc _) (SlI.lit_at (by simp) (xs := [258, 772]) (by rfl) rfl (by omega))).mono ?_
  rintro e w5 ⟨rfl, k5, rfl⟩
  rw [decide_eq_true rfl]
  go_wp2_with fail
  refine (same_sl A2 (some ⟨w4.heap.size + 1, 0, none⟩) n2 2 c2 2 [772, 258] [772, 258] _ ((((((HS2.out).up hb3).up hb4).alloc _).drewN _).alloc _) (SlI.lit_at (by simp) (xs := [772, 258]) (by rfl) rfl (by omega))).mono ?_
  rintro e w6 ⟨rfl, k6, rfl⟩
  rw [decide_eq_true rfl]
  go_wp2_with fail
  refine (same_sl A3 (some ⟨w4.heap.size + 2, 0, none⟩) n3 2 c3 2 [513, 1027] [513, 1027] _ (((((((HS3.out).up hb4).alloc _).drewN _).alloc _).drewN _).alloc _) (SlI.lit_at (by simp) (xs := [513, 1027]) (by rfl) rfl (by omega))).mono ?_
  rintro e w7 ⟨rfl, k7, rfl⟩
  rw [decide_eq_true rfl]
  go_wp2_with fail
  refine (same_sl A4 (some ⟨w4.heap.size + 3, 0, none⟩) n4 2 c4 2 [1027, 513] [1027, 513] _ ((((((((HS4.out).alloc _).drewN _).alloc _).drewN _).alloc _).drewN _).alloc _) (SlI.lit_at (by simp) (xs := [1027, 513]) (by rfl) rfl (by omega))).mono ?_
  rintro e w8 ⟨rfl, k8, rfl⟩
  rw [decide_eq_true rfl]
  go_wp2_with fail
  go_ret
  refine ⟨rfl, ?_⟩
  have hb := below_step (below_step (below_step hb1 hb2) hb3) hb4
  exact (below_drewN (below_alloc (below_drewN (below_alloc (below_drewN (below_alloc (below_drewN (below_alloc hb _) _) _) _) _) _) _) _)
end Go.Proofs.Ytnglajpmkjgbaaa
