/- The law RegsNames: the walk (closed). -/
import Derived.Test.YtnglajpmkjgbaaaRegsUndone
namespace Go.Proofs.Ytnglajpmkjgbaaa
open Go.RowKit

theorem ok_abc : txtOk ⟨#[97, 98, 99]⟩ 2 := ⟨by decide +kernel, by decide +kernel, by decide +kernel, (noZero_iff _).2 (by decide +kernel)⟩
theorem no_abcde : ¬ txtOk ⟨#[97, 98, 99, 100, 101]⟩ 2 := fun h => absurd h.2.2.1 (by decide +kernel)
theorem no_a0 : ¬ txtOk ⟨#[97, 0]⟩ 2 := fun h => absurd ((noZero_iff _).1 h.2.2.2) (by decide +kernel)
theorem abc_list : txtL ⟨#[97, 98, 99]⟩ 2 3 = [24930, 25344] := by decide +kernel

set_option maxRecDepth 100000 in
set_option maxHeartbeats 4000000 in
theorem law_names (w : World) : Calls Try.prog 9 #[] w fun e w' => e = .returned (.bool true) ∧ Below w.heap.size w w' := by
  go_in
  go_wp2_with fail
  go_at_call 14
  refine (words_sl 65536 1 1 (by omega) (by omega) _).mono ?_
  rintro e w1 ⟨A1, n1, c1, rfl, hs1, hb1⟩
  rw [show wordsE 65536 1 1 = 20 by decide +kernel]
  clear hs1
  have hmk : ∀ w : World, (Instr.makeSlice 33 (.int .i64 3) (.int .i64 3)).run Try.prog w = .ok (.slice (some ⟨w.heap.size, 0, none⟩) 3 3) (w.alloc (.cells #[.int .u16 0, .int .u16 0, .int .u16 0] 50)) := fun _ => by kernel_rfl
  go_wp2_with fail
  refine (value_sl _ 3 3 [0, 0, 0] 1 _ (SlI.of_lit rfl rfl (by omega)) (by decide +kernel)).mono ?_
  rintro e w3 ⟨rfl, hb3⟩
  rw [show valE [0, 0, 0] 1 = 20 by decide +kernel]
  go_wp2_with fail
  refine (signed_own 65535 1 (by omega) (by omega) _).mono ?_
  rintro e w' ⟨rfl, rfl⟩
  rw [show signedV 65535 1 = -1 by decide +kernel, show signedE 65535 1 = 0 by decide +kernel]
  go_wp2_with fail
  refine (uns_own (-1) 2 (by omega) (by omega) _).mono ?_
  rintro e w' ⟨rfl, rfl⟩
  rw [show unsV (-1) 2 = 4294967295 by decide +kernel, show unsE (-1) 2 = 0 by decide +kernel]
  go_wp2_with fail
  refine (uns_own 32768 1 (by omega) (by omega) _).mono ?_
  rintro e w' ⟨rfl, rfl⟩
  rw [show unsV 32768 1 = 0 by decide +kernel, show unsE 32768 1 = 20 by decide +kernel]
  go_wp2_with fail
  go_at_call 20
  refine (text_any _ 2 _).mono ?_
  rintro e w4 (⟨_, u, k, hk, rfl, hown, hb4⟩ | ⟨h, _⟩)
  case inr => exact (h ok_abc).elim
  obtain rfl : k = 2 := by omega
  obtain ⟨A4, c4, rfl, hS4⟩ := SlI.of_own hown
  clear hown
  have HS4 := Lib.hid hS4
  clear hS4
  go_wp2_with fail
  go_at_call 20
  refine (text_any _ 2 _).mono ?_
  rintro e w5 (⟨h, _⟩ | ⟨_, rfl, hb5⟩)
  case inl => exact (no_abcde h).elim
  have HS4 := Lib.hid (HS4.out.up hb5)
  go_wp2_with fail
  go_at_call 20
  refine (text_any _ 2 _).mono ?_
  rintro e w6 (⟨h, _⟩ | ⟨_, rfl, hb6⟩)
  case inl => exact (no_a0 h).elim
  have HS4 := Lib.hid (HS4.out.up hb6)
  go_wp2_with fail
  obtain ⟨V, q, nv, hV, hq, _, hF⟩ := frombytes_u 1 [1] rfl (by omega) (by simp)
  obtain ⟨rfl, rfl⟩ : q = 20 ∧ nv = 0 := by omega
  have HF := Lib.hid hF
  clear hF hV hq
  refine (HF.out _ 1 _ (SlI.of_lit rfl rfl (by omega))).mono ?_
  rintro e w7 ⟨A7, c7, rfl, _, hb7⟩
  have HS4 := Lib.hid ((HS4.out.alloc _).up hb7)
  go_wp2_with fail
  refine (value_sl _ 1 1 [4660] 4 _ (SlI.of_lit rfl rfl (by omega)) (by decide +kernel)).mono ?_
  rintro e w8 ⟨rfl, hb8⟩
  rw [show valX [4660] 4 = 13330 by decide +kernel, show valE [4660] 4 = 0 by decide +kernel]
  have HS4 := Lib.hid ((HS4.out.alloc _).up hb8)
  go_wp2_with fail
  refine (alive_any _).mono ?_
  rintro e w9 ⟨rfl, hb9⟩
  have hS9 := HS4.out.up hb9
  rw [show txtL ⟨#[97, 98, 99]⟩ 2 (ByteArray.size ⟨#[97, 98, 99]⟩) = [24930, 25344] by decide +kernel] at hS9
  have HS9 := Lib.hid hS9
  have hB9 : Below w.heap.size w w9 := below_step (below_step (below_alloc (below_step (below_alloc (below_step (below_step (below_step (below_step (below_alloc hb1 _) hb3) hb4) hb5) hb6) _) hb7) _) hb8) hb9
  clear hS9 HS4 hb1 hb3 hb4 hb5 hb6 hb7 hb8 hb9
  go_wp2_with fail
  refine (same_sl _ _ 2 2 c4 2 [24930, 25344] [24930, 25344] _ (HS9.out.alloc _) (SlI.of_lit rfl rfl (by omega))).mono ?_
  rintro e w10 ⟨rfl, nq, rfl⟩
  rw [show decide (([24930, 25344] : List Int) = [24930, 25344]) = true by decide +kernel]
  go_wp2_with fail
  refine ((callsIn_wide (n := 5)).1 (fromtext_in A4 2 c4 [⟨24930, by omega⟩, ⟨25344, by omega⟩] (by omega) rfl _ ((HS9.out.alloc _).drewN nq).2.2.2.2)).mono ?_
  rintro e w11 ⟨⟨k, hk, hk1, hk2, rfl⟩, hb11⟩
  have hk3 : k = 3 := by
    rcases (show k = 0 ∨ k = 1 ∨ k = 2 ∨ k = 3 ∨ k = 4 by omega) with rfl | rfl | rfl | rfl | rfl
    · rcases hk2 with h | h
      · omega
      · exact absurd h (by decide +kernel)
    · rcases hk2 with h | h
      · omega
      · exact absurd h (by decide +kernel)
    · rcases hk2 with h | h
      · omega
      · exact absurd h (by decide +kernel)
    · rfl
    · exact absurd (show (bytesOf [⟨24930, by omega⟩, ⟨25344, by omega⟩])[3]? = some 0 by decide +kernel) (hk1 3 (by omega))
  subst hk3
  rw [show strU ((bytesOf [⟨24930, by omega⟩, ⟨25344, by omega⟩]).take 3) = ⟨#[97, 98, 99]⟩ by decide +kernel]
  clear hk hk1 hk2
  go_wp2
  go_ret
  exact ⟨rfl, below_step (below_drewN (below_alloc hB9 _) _) hb11⟩
end Go.Proofs.Ytnglajpmkjgbaaa
