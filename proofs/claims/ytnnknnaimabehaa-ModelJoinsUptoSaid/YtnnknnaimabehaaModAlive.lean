/- kilowattlaw26.alive. -/
import Derived.Test.YtnnknnaimabehaaModSeven
namespace Go.Proofs.Ytnnknnaimabehaa
open Go.RowKit
set_option linter.unusedVariables false
set_option maxRecDepth 100000
theorem bk_nil (w : World) : BkI w w.heap.size none 0 0 [] := ⟨rfl, by omega, by simp [maxLen], fun _ => ⟨rfl, rfl⟩, fun h => absurd h (by omega)⟩
set_option maxHeartbeats 2000000 in
theorem alive_mod (w : World) : Calls Try.prog 8 #[] w fun e w' => e = .returned (.bool true) ∧ Below w.heap.size w w' := by
  have H1 := Lib.hid (image_own none 0 0 [] (by omega) w (bk_nil w))
  rw [ex_empty] at H1
  go_in
  go_wp2_with fail
  refine H1.out.mono ?_
  rintro e w1 ⟨A1, n1, c1, er, rfl, her, hs1, hb1⟩
  have hs1 := hs1 _ rfl
  obtain rfl : er = 0 := her
  obtain rfl : n1 = 4 := hs1.1.symm
  go_wp2_with fail
  refine (seven_any w1).mono ?_
  rintro e w2 ⟨⟨A2, rfl, hB2⟩, hb2⟩
  have hb2w := hb1.trans (hb2.mono hb1.size)
  have H2 := Lib.hid (image_own A2 1 1 [sevenB] (by omega) w2 hB2)
  rw [ex_seven] at H2
  clear hB2
  go_wp2_with fail
  refine H2.out.mono ?_
  rintro e w3 ⟨A3, n3, c3, er, rfl, her, hs3, hb3⟩
  have hs3 := hs3 _ rfl
  obtain rfl : er = 0 := her
  obtain rfl : n3 = 8 := hs3.1.symm
  have hb3w := hb2w.trans (hb3.mono hb2w.size)
  have H3 := Lib.hid (find_own A3 8 c3 _ 7 0 (by omega) (by omega) w3 hs3 (fun x hx => by simp at hx; omega))
  rw [ex_find] at H3
  have hs1' := (hs1.up hb2).up hb3
  have HS1 := Lib.hid hs1'
  have HS3 := Lib.hid hs3
  clear hs1 hs1' hs3
  go_wp2_with fail
  refine H3.out.mono ?_
  rintro e w' ⟨rfl, rfl⟩
  obtain ⟨w4, hw4⟩ : ∃ W, w3.alloc (.cells #[.int .u16 21365, .int .u16 28243, .int .u16 65535, .int .u16 0] 40) = W := ⟨_, rfl⟩
  have hb4 : Below w3.heap.size w3 w4 := by rw [← hw4]; exact (Below.refl _ _).alloc (Nat.le_refl _) _
  have hs4 : SlI w4 w4.heap.size .u16 (some ⟨w3.heap.size, 0, none⟩) 4 4 [21365, 28243, 65535, 0] := by rw [← hw4]; exact SlI.of_lit rfl rfl (by omega)
  have H4 := Lib.hid (same_sl A1 _ 4 4 c1 4 _ _ w4 (HS1.out.up hb4) hs4)
  rw [decide_eq_true rfl] at H4
  have hb4w := hb3w.trans (hb4.mono hb3w.size)
  clear hs4
  go_wp2_with fail
  refine H4.out.mono ?_
  rintro e w5 ⟨rfl, q5, hw5⟩
  have hb5 : Below w4.heap.size w4 w5 := by rw [hw5]; exact below_drewN (Below.refl _ _) _
  clear hw5
  have hb5w := hb4w.trans (hb5.mono hb4w.size)
  obtain ⟨w6, hw6⟩ : ∃ W, w5.alloc (.cells #[.int .u16 21365, .int .u16 28243, .int .u16 7, .int .u16 2, .int .u16 1, .int .u16 1, .int .u16 65535, .int .u16 0] 40) = W := ⟨_, rfl⟩
  have hb6 : Below w5.heap.size w5 w6 := by rw [← hw6]; exact (Below.refl _ _).alloc (Nat.le_refl _) _
  have hs6 : SlI w6 w6.heap.size .u16 (some ⟨w5.heap.size, 0, none⟩) 8 8 [21365, 28243, 7, 2, 1, 1, 65535, 0] := by rw [← hw6]; exact SlI.of_lit rfl rfl (by omega)
  have H6 := Lib.hid (same_sl A3 _ 8 8 c3 8 _ _ w6 (((HS3.out.up hb4).up hb5).up hb6) hs6)
  rw [decide_eq_true rfl] at H6
  have hb6w := hb5w.trans (hb6.mono hb5w.size)
  clear hs6
  go_wp2_with fail
  refine H6.out.mono ?_
  rintro e w7 ⟨rfl, q7, hw7⟩
  have hb7w : Below w.heap.size w w7 := by rw [hw7]; exact below_drewN hb6w _
  clear hw7
  go_wp2_with fail
  go_ret
  exact ⟨rfl, hb7w⟩
end Go.Proofs.Ytnnknnaimabehaa
