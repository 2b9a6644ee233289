/- The law RegsBack: the walk. -/
import Derived.Test.YtnglajpmkjgbaaaRegsBack
namespace Go.Proofs.Ytnglajpmkjgbaaa
open Go.RowKit

set_option maxRecDepth 100000 in
set_option maxHeartbeats 2000000 in
theorem law_back (v m o : Int) (A : Option Addr) (n c : Nat) (xs : List Int) (w : World) (h0 : 0 ≤ v) (hv : v ≤ 18446744073709551615) (hS : SlI w w.heap.size .u16 A n c xs) (hx : InReg xs) :
    Calls Try.prog 7 #[.int .u64 v, .slice A n c, .int .i64 m, .int .i64 o] w fun e w' => e = .returned (.bool true) ∧ Below w.heap.size w w' := by
  have hn : n ≤ maxLen := by have := hS.2; omega
  unfold maxLen at hn
  by_cases hlt : 4 < n
  · go_in
    go_wp2_with (go_at_call 19; refine (alive_any _).mono ?_; rintro e w1 ⟨rfl, hb1⟩)
    go_ret
    exact ⟨rfl, hb1⟩
  -- what the three groups come to
  have g1 : ∃ E1 F1 B1 N1 : Int, wordsE v m o = E1 ∧ valE (wordsX v m o) o = F1 ∧ valX (wordsX v m o) o = B1 ∧ ((wordsX v m o).length : Int) = N1 ∧ (E1 = 20 ∨ E1 = 0 ∧ F1 = 0 ∧ B1 = v ∧ N1 = m) := by
    refine ⟨_, _, _, _, rfl, rfl, rfl, rfl, ?_⟩
    cases h : wordsB v m o with
    | false => exact .inl (by simp [wordsE, h])
    | true => exact .inr ⟨by simp [wordsE, h], back_1 v m o h0 hv h⟩
  have g2 : ∃ G2 H2 : Int, valE xs o = G2 ∧ wordsE (valX xs o) n o = H2 ∧ (G2 = 20 ∨ G2 = 0 ∧ H2 = 0 ∧ wordsX (valX xs o) n o = xs) := by
    refine ⟨_, _, rfl, rfl, ?_⟩
    have hl := hS.1
    subst hl
    cases h : valB xs.length o with
    | false => exact .inl (by simp [valE, h])
    | true => exact .inr ⟨by simp [valE, h], back_2 xs o hx h⟩
  obtain ⟨E1, F1, B1, N1, q1, q2, q3, q4, g1⟩ := g1
  obtain ⟨G2, H2, q5, q6, g2⟩ := g2
  have Q1 := Lib.hid q1
  have Q2 := Lib.hid q2
  have Q3 := Lib.hid q3
  have Q4 := Lib.hid q4
  have Q5 := Lib.hid q5
  have Q6 := Lib.hid q6
  have G2' := Lib.hid g2
  have HS := Lib.hid hS
  have HX := Lib.hid hx
  have hn4 : n ≤ 4 := by omega
  obtain ⟨z0, z1⟩ := valX_in xs o hx
  clear q1 q2 q3 q4 q5 q6 hS hx hlt
  have g2s : G2 = 20 ∨ G2 = 0 ∧ H2 = 0 := by
    rcases g2 with h | ⟨h, h', _⟩
    · exact .inl h
    · exact .inr ⟨h, h'⟩
  clear g2
  have G1' := Lib.hid g1
  have E3 := Lib.hid (back_3 v m)
  obtain ⟨J, hJ⟩ : ∃ J, J = wordsE v m 1 := ⟨_, rfl⟩
  have HJ := Lib.hid hJ
  have hvv : (v != v) = false := by simp
  clear hJ
  have g1 : E1 = 20 ∨ E1 = 0 ∧ F1 = 0 ∧ v = B1 ∧ m = N1 := by
    rcases g1 with h | ⟨h, h', h3, h4⟩
    · exact .inl h
    · exact .inr ⟨h, h', h3.symm, h4.symm⟩
  rcases g1 with rfl | ⟨rfl, rfl, h3, h4⟩ <;> rcases g2s with rfl | ⟨rfl, rfl⟩ <;> (try subst h3) <;> (try subst h4)
  all_goals
    go_in
    go_wp2_with (go_at_call 19; refine (alive_any _).mono ?_; rintro e w1 ⟨rfl, hb1⟩)
    refine (words_sl _ _ o h0 hv _).mono ?_
    rintro e w2 ⟨A2, n2, c2, rfl, hs2, hb2⟩
    rw [Q1.out]
    have hn2 := hs2.1
    have HN2 := Lib.hid hn2
    have HS2 := Lib.hid hs2
    have hin2 := wordsX_in v m o
    have hne : (((n2 : Int) != ((wordsX v m o).length : Int))) = false := by simp; omega
    rw [Q4.out] at hne
    clear hs2 hn2
    go_wp2_with fail
    refine (value_sl A2 n2 c2 _ o _ HS2.out (wordsX_in _ _ _)).mono ?_
    rintro e w3 ⟨rfl, hb3⟩
    rw [Q2.out, Q3.out]
    go_wp2_with fail
    refine (value_sl A n c xs o _ (((HS.out.up hb1).up hb2).up hb3) HX.out).mono ?_
    rintro e w4 ⟨rfl, hb4⟩
    rw [Q5.out]
    go_wp2_with fail
    refine (words_sl (valX xs o) n o z0 z1 _).mono ?_
    rintro e w5 ⟨A5, n5, c5, rfl, hs5, hb5⟩
    rw [Q6.out]
    have HS5 := Lib.hid hs5
    clear hs5
    go_wp2_with fail
  any_goals
    go_at_call 18
    have hxx : wordsX (valX xs o) n o = xs := by
      rcases G2'.out with h | h
      · cases h
      · exact h.2.2
    refine (same_sl A5 A n5 n c5 c _ _ _ HS5.out (((((HS.out.up hb1).up hb2).up hb3).up hb4).up hb5)).mono ?_
    rintro e w5' ⟨rfl, k5, rfl⟩
    rw [hxx, decide_eq_true rfl]
    clear hxx
    have hb5 := below_drewN hb5 k5
    obtain ⟨w5', hw5⟩ : ∃ w5', w5' = w5.drewN k5 := ⟨_, rfl⟩
    rw [← hw5] at hb5 ⊢
    clear hw5 HS5
    go_wp2_with fail
  all_goals
    refine (words_sl v m 1 h0 hv _).mono ?_
    rintro e w6 ⟨A6, n6, c6, rfl, hs6, hb6⟩
    rw [← HJ.out]
    have hl6 := hs6.1
    have hx6 := wordsX_len v m 1
    have HS6 := Lib.hid hs6
    clear hs6
    go_wp2_with fail
    refine (words_sl v m 4 h0 hv _).mono ?_
    rintro e w7 ⟨A7, n7, c7, rfl, hs7, hb7⟩
    rw [E3.out.1, ← HJ.out]
    have hl7 := hs7.1
    have hx7 := wordsX_len v m 4
    have HS7 := Lib.hid hs7
    clear hs7
    go_wp2_with fail
    refine (bytes_sl A6 n6 c6 _ _ (HS6.out.up hb7) (wordsX_in _ _ _) (by omega)).mono ?_
    rintro e w8 ⟨A8, n8, c8, rfl, hs8, hb8⟩
    have HS8 := Lib.hid hs8
    clear hs8
    go_wp2_with fail
    refine (bytes_sl A7 n7 c7 _ _ (HS7.out.up hb8) (wordsX_in _ _ _) (by omega)).mono ?_
    rintro e w9 ⟨A9, n9, c9, rfl, hs9, hb9⟩
    rw [E3.out.2] at hs9
    have HS8 := Lib.hid (HS8.out.up hb9)
    have HS9 := Lib.hid hs9
    clear hs9
    generalize bytesI (wordsX v m 1) = P at HS8 HS9
    have hl8 := HS8.out.1
    have hl9 := HS9.out.1
    have hl89 : n9 = n8 := by rw [← hl9, List.length_reverse, hl8]
    subst hl89
    have hb19 := below_step (below_step (below_step (below_step (below_step (below_step (below_step (below_step hb1 hb2) hb3) hb4) hb5) hb6) hb7) hb8) hb9
    have hn8 : n9 ≤ 9223372036854775807 := by have := HS9.out.2; unfold maxLen at this; omega
    have HL8 := Lib.hid hl8
    clear hl6 hx6 hl7 hx7 hl8 hl9 hb1 hb2 hb3 hb4 hb5 hb6 hb7 hb8 hb9
    go_wp2_with fail
    go_loopw [24] (fun i wr => ∃ (k q : Nat), k ≤ n9 ∧ i = .int .i64 k ∧ wr = w9.drewN q) (fun i _ => n9 - (intOf i).toNat)
    case atStart => exact ⟨0, 0, by omega, rfl, rfl⟩
    case round =>
      obtain ⟨k, q, hk, rfl, rfl⟩ := hrel
      by_cases hlt : k < n9
      · obtain ⟨g8, o8, x, rfl, _, hx8, hc8⟩ := HS8.out.2.2.2.2.at_ (i := k) (by rw [HL8.out]; exact hlt)
        obtain ⟨g9, o9, y, rfl, _, hy9, hc9⟩ := HS9.out.2.2.2.2.at_ (i := n9 - 1 - k) (by rw [List.length_reverse, HL8.out]; omega)
        have hxy : y = x := by
          rw [List.getElem?_reverse (by rw [HL8.out]; omega), HL8.out, show n9 - 1 - (n9 - 1 - k) = k by omega, hx8] at hy9
          injection hy9 with h; exact h.symm
        subst hxy
        clear hx8 hy9
        go_wp2_with fail
        have a1 : (0 : Int) ≤ (n9 : Int) - 1 - (k : Int) := by omega
        have a2 : (n9 : Int) - 1 - (k : Int) < (n9 : Int) := by omega
        have a3 : ((n9 : Int) - 1 - (k : Int)).toNat = n9 - 1 - k := by omega
        have a4 : IntKind.i64.wrap ((n9 : Int) - 1) = (n9 : Int) - 1 := IntWalk.i64_in _ (by omega)
        have a5 : IntKind.i64.wrap ((n9 : Int) - 1 - (k : Int)) = (n9 : Int) - 1 - (k : Int) := IntWalk.i64_in _ (by omega)
        have a6 : (k : Int) < (n9 : Int) := by omega
        go_quiet (fail)
        clear a1 a2 a3 a4 a5
        go_wp2_with fail
        go_roundw
        case rel => exact ⟨k + 1, _, by omega, by go_num, rfl⟩
        case measure => simp [intOf]; omega
      · go_wp2_with fail
        go_ret
        exact ⟨rfl, below_drewN hb19 q⟩
end Go.Proofs.Ytnglajpmkjgbaaa
