/- The law RegsUndone: the walk. -/
import Derived.Test.YtnglajpmkjgbaaaRegsUndoneA
namespace Go.Proofs.Ytnglajpmkjgbaaa
open Go.RowKit

theorem signed_bounds (v m : Int) (h0 : 0 ≤ v) (hv : v ≤ 18446744073709551615) : -9223372036854775808 ≤ signedV v m ∧ signedV v m ≤ 9223372036854775807 := by
  unfold signedV
  cases h : fitsB v m with
  | false => simp
  | true =>
    simp only [fitsB, decide_eq_true_eq] at h
    rcases h with ⟨rfl, h⟩ | ⟨rfl, h⟩ | rfl <;> simp [halfS] <;> split <;> omega
theorem uns_bounds (n m : Int) (h0 : -9223372036854775808 ≤ n) (hn : n ≤ 9223372036854775807) : 0 ≤ unsV n m ∧ unsV n m ≤ 18446744073709551615 := by
  unfold unsV
  cases h : unsB n m with
  | false => simp
  | true =>
    simp only [unsB, decide_eq_true_eq] at h
    obtain ⟨rfl | rfl | rfl, h1, h2⟩ := h <;> simp [halfS] at h1 h2 ⊢ <;> split <;> omega
theorem undone_1 (v m : Int) (h0 : 0 ≤ v) (hv : v ≤ 18446744073709551615) : signedE v m = 20 ∨ (signedE v m = 0 ∧ unsE (signedV v m) m = 0 ∧ unsV (signedV v m) m = v) := by
  cases h : fitsB v m with
  | false => exact Or.inl (by simp [signedE, h])
  | true =>
    refine Or.inr ⟨by simp [signedE, h], ?_⟩
    have hu : unsB (signedV v m) m = true := by
      simp only [signedV, h, if_true, unsB, decide_eq_true_eq]
      simp only [fitsB, decide_eq_true_eq] at h
      rcases h with ⟨rfl, h⟩ | ⟨rfl, h⟩ | rfl <;> simp [halfS] <;> split <;> omega
    refine ⟨by simp [unsE, hu], ?_⟩
    unfold unsV
    rw [hu, if_pos rfl]
    unfold signedV
    rw [h, if_pos rfl]
    simp only [fitsB, decide_eq_true_eq] at h
    rcases h with ⟨rfl, h⟩ | ⟨rfl, h⟩ | rfl <;> simp [halfS] <;> split <;> (try split) <;> omega
theorem undone_2 (n m : Int) (h0 : -9223372036854775808 ≤ n) (hn : n ≤ 9223372036854775807) : unsE n m = 20 ∨ (unsE n m = 0 ∧ signedE (unsV n m) m = 0 ∧ signedV (unsV n m) m = n) := by
  cases h : unsB n m with
  | false => exact Or.inl (by simp [unsE, h])
  | true =>
    refine Or.inr ⟨by simp [unsE, h], ?_⟩
    have hf : fitsB (unsV n m) m = true := by
      simp only [unsV, h, if_true, fitsB, decide_eq_true_eq]
      simp only [unsB, decide_eq_true_eq] at h
      obtain ⟨rfl | rfl | rfl, h1, h2⟩ := h <;> simp [halfS] at h1 h2 ⊢ <;> split <;> omega
    refine ⟨by simp [signedE, hf], ?_⟩
    unfold signedV
    rw [hf, if_pos rfl]
    unfold unsV
    rw [h, if_pos rfl]
    simp only [unsB, decide_eq_true_eq] at h
    obtain ⟨rfl | rfl | rfl, h1, h2⟩ := h <;> simp [halfS] at h1 h2 ⊢ <;> split <;> (try split) <;> omega

set_option maxRecDepth 100000 in
set_option maxHeartbeats 8000000 in
theorem law_undone (v n m : Int) (s : ByteArray) (A : Option Addr) (nl c : Nat) (xs : List Int) (w : World) (h0 : 0 ≤ v) (hv : v ≤ 18446744073709551615) (hn0 : -9223372036854775808 ≤ n) (hn : n ≤ 9223372036854775807)
    (hS : SlI w w.heap.size .u16 A nl c xs) (hx : InReg xs) :
    Calls Try.prog 8 #[.int .u64 v, .int .i64 n, .int .i64 m, .string s, .slice A nl c] w fun e w' => e = .returned (.bool true) ∧ Below w.heap.size w w' := by
  by_cases k1 : 400 < s.size
  · go_in
    go_wp2_with (go_at_call 19; refine (alive_any _).mono ?_; rintro e w1 ⟨rfl, hb1⟩)
    go_ret
    exact ⟨rfl, hb1⟩
  by_cases k2 : 200 < nl
  · go_in
    go_wp2_with (go_at_call 19; refine (alive_any _).mono ?_; rintro e w1 ⟨rfl, hb1⟩)
    go_ret
    exact ⟨rfl, hb1⟩
  have q1 := undone_1 v m h0 hv
  have q2 := undone_2 n m hn0 hn
  have B1 := signed_bounds v m h0 hv
  have B2 := uns_bounds n m hn0 hn
  have C1 := Lib.hid fun W => signed_own v m h0 hv W
  have C2 := Lib.hid fun W => uns_own (signedV v m) m B1.1 B1.2 W
  have C3 := Lib.hid fun W => uns_own n m hn0 hn W
  have C4 := Lib.hid fun W => signed_own (unsV n m) m B2.1 B2.2 W
  generalize unsE (signedV v m) m = F1 at q1 C2
  generalize unsV (signedV v m) m = V1 at q1 C2
  generalize signedE v m = E1 at q1 C1
  generalize signedV v m = S1 at C1 C2
  generalize signedE (unsV n m) m = F2 at q2 C4
  generalize signedV (unsV n m) m = V2 at q2 C4
  generalize unsE n m = E2 at q2 C3
  generalize unsV n m = S2 at C3 C4
  have hlx := hS.1
  have HS := Lib.hid hS
  have HX := Lib.hid hx
  have HLX := Lib.hid hlx
  have hkk : nl ≤ 200 := by omega
  have hks : s.size ≤ 400 := by omega
  clear hS hx hlx B1 B2 k1 k2
  go_in
  go_wp2_with fail
  go_at_call 19
  refine (alive_any _).mono ?_
  rintro e w1 ⟨rfl, hb1⟩
  go_wp2_with (first
    | (go_at_call 10; (with_reducible refine (C1.out _).mono ?_); rintro e w' ⟨rfl, rfl⟩)
    | (go_at_call 12; (with_reducible refine (C2.out _).mono ?_); rintro e w' ⟨rfl, rfl⟩)
    | (go_at_call 12; (with_reducible refine (C3.out _).mono ?_); rintro e w' ⟨rfl, rfl⟩)
    | (go_at_call 10; (with_reducible refine (C4.out _).mono ?_); rintro e w' ⟨rfl, rfl⟩))
  go_at_call 20
  refine (text_any s m _).mono ?_
  by_cases hok : txtOk s m <;> have HOK := Lib.hid hok <;> clear hok
  · rintro e w2 HP
    obtain ⟨k, hk, A4, c4, rfl, hS4, hb2⟩ : ∃ (k : Nat) (_ : (k : Int) = m) (A4 : Option Addr) (c4 : Nat), e = .returned (.tuple #[.slice A4 k c4, .int .i64 0]) ∧ SlI w2 w2.heap.size .u16 A4 k c4 (txtL s k s.size) ∧ Below w1.heap.size w1 w2 := by
      rcases HP with ⟨_, u, k, hk, rfl, hown, hb⟩ | ⟨h, _⟩
      · obtain ⟨A4, c4, rfl, hS⟩ := SlI.of_own hown
        exact ⟨k, hk, A4, c4, rfl, hS, hb⟩
      · exact (h HOK.out).elim
    have HS4 := Lib.hid hS4
    have HK := Lib.hid hk
    have hkm : ((k : Int) == m) = true := by simpa using hk
    clear hS4 hk
    have HS := Lib.hid ((HS.out.up hb1).up hb2)
    go_wp2_with fail
    go_at_call 22
    refine (bytes_sl A nl c xs _ HS.out HX.out (by omega)).mono ?_
    rintro e w3 ⟨A6, n6, c6, rfl, hS6, hb3⟩
    obtain rfl : n6 = 2 * nl := by rw [← hS6.1, bytesI_len, HLX.out]
    have HS := Lib.hid (HS.out.up hb3)
    go_wp2_with fail
    go_at_call 23
    refine (frombytes_even A6 (2 * nl) c6 nl (bytesI xs) rfl (by omega) (bytesI_in xs HX.out) _ hS6).mono ?_
    rintro e w4 ⟨A7, n7, c7, rfl, hS7, hb4⟩
    have HS := Lib.hid (HS.out.up hb4)
    rw [show wordsK (bytesI xs) (List.finRange nl) = xs by have := bytes_undone xs; rw [HLX.out] at this; exact this] at hS7
    have HS7 := Lib.hid hS7
    clear hS6 hS7
    have HS4 := Lib.hid ((HS4.out.up hb3).up hb4)
    have hbw := below_step (below_step (below_step hb1 hb2) hb3) hb4
    have C5 := Lib.hid (text_undone s k (by rw [HK.out]; exact HOK.out) A4 c4 w4 HS4.out)
    rcases q1 with rfl | ⟨rfl, rfl, rfl⟩ <;> rcases q2 with rfl | ⟨rfl, rfl, rfl⟩
    all_goals
      go_wp2_with fail
      go_at_call 24
      refine C5.out.mono ?_
      rintro e w5 ⟨rfl, hb5⟩
      have HS := Lib.hid (HS.out.up hb5)
      have HS7 := Lib.hid (HS7.out.up hb5)
      have hbw := below_step hbw hb5
      go_wp2_with fail
      go_at_call 18
      refine (same_sl A7 A n7 nl c7 c xs xs _ HS7.out HS.out).mono ?_
      rintro e w6 ⟨rfl, q5, rfl⟩
      rw [decide_eq_true (rfl : xs = xs)]
      go_wp2_with fail
      go_ret
      exact ⟨rfl, below_drewN hbw q5⟩
  · rintro e w2 HP
    obtain ⟨rfl, hb2⟩ : e = .returned (.tuple #[.slice none 0 0, .int .i64 20]) ∧ Below w1.heap.size w1 w2 := by
      rcases HP with ⟨h, _⟩ | ⟨_, h, h'⟩
      · exact (HOK.out h).elim
      · exact ⟨h, h'⟩
    have HS := Lib.hid ((HS.out.up hb1).up hb2)
    go_wp2_with fail
    go_at_call 22
    refine (bytes_sl A nl c xs _ HS.out HX.out (by omega)).mono ?_
    rintro e w3 ⟨A6, n6, c6, rfl, hS6, hb3⟩
    obtain rfl : n6 = 2 * nl := by rw [← hS6.1, bytesI_len, HLX.out]
    have HS := Lib.hid (HS.out.up hb3)
    go_wp2_with fail
    go_at_call 23
    refine (frombytes_even A6 (2 * nl) c6 nl (bytesI xs) rfl (by omega) (bytesI_in xs HX.out) _ hS6).mono ?_
    rintro e w4 ⟨A7, n7, c7, rfl, hS7, hb4⟩
    have HS := Lib.hid (HS.out.up hb4)
    rw [show wordsK (bytesI xs) (List.finRange nl) = xs by have := bytes_undone xs; rw [HLX.out] at this; exact this] at hS7
    have HS7 := Lib.hid hS7
    clear hS6 hS7
    have hbw := below_step (below_step (below_step hb1 hb2) hb3) hb4
    rcases q1 with rfl | ⟨rfl, rfl, rfl⟩ <;> rcases q2 with rfl | ⟨rfl, rfl, rfl⟩
    all_goals
      go_wp2_with fail
      go_at_call 18
      refine (same_sl A7 A n7 nl c7 c xs xs _ HS7.out HS.out).mono ?_
      rintro e w5 ⟨rfl, q5, rfl⟩
      rw [decide_eq_true (rfl : xs = xs)]
      go_wp2_with fail
      go_ret
      exact ⟨rfl, below_drewN hbw q5⟩
end Go.Proofs.Ytnglajpmkjgbaaa
