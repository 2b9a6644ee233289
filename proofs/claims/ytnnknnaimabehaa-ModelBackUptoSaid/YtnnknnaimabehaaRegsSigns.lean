/- The walks of the numbers with signs: regs.fits, Signed, Unsigned and the reference's. -/
import Derived.Test.YtnnknnaimabehaaRows
import Derived.Test.YtnnknnaimabehaaRegsPlain
import Derived.Test.YtnnknnaimabehaaMem
import Derived.WalkKit
import Derived.WalkSpells
import Derived.WalkLawsBesides
import Derived.BigQuiet
import Derived.Deep.QuietTactic
import Derived.Lib.Hide
namespace Go.Proofs.Ytnnknnaimabehaa
open Go.RowKit


theorem may_any (m : Int) (w : World) : Calls Try.prog 28 #[.int .i64 m] w fun e w' => e = .returned (.bool (mayB m)) ∧ w = w' := by
  by_cases h1 : m = 1
  · subst h1; go_in; go_wp2; go_ret; exact ⟨rfl, rfl⟩
  by_cases h2 : m = 2
  · subst h2; go_in; go_wp2; go_ret; exact ⟨rfl, rfl⟩
  by_cases h4 : m = 4
  · subst h4; go_in; go_wp2; go_ret; exact ⟨rfl, rfl⟩
  have k1 : (m == 1) = false := by simpa using h1
  have k2 : (m == 2) = false := by simpa using h2
  have k4 : (m == 4) = false := by simpa using h4
  go_in; go_wp2; go_ret
  exact ⟨by simp [mayB, h1, h2, h4], rfl⟩

theorem fits_ref (v m : Int) (w : World) : Calls Try.prog 51 #[.int .u64 v, .int .i64 m] w fun e w' => e = .returned (.bool (fitsB v m)) ∧ w = w' := by
  by_cases h4 : m = 4
  · subst h4; go_in; go_wp2; go_ret; exact ⟨by simp [fitsB], rfl⟩
  by_cases h1 : m = 1
  · subst h1
    by_cases hv : v < 65536
    · go_in; go_wp2; go_ret; exact ⟨by simp [fitsB, hv], rfl⟩
    · go_in; go_wp2; go_ret; exact ⟨by simp [fitsB]; omega, rfl⟩
  by_cases h2 : m = 2
  · subst h2
    by_cases hv : v < 4294967296
    · go_in; go_wp2; go_ret; exact ⟨by simp [fitsB, hv], rfl⟩
    · go_in; go_wp2; go_ret; exact ⟨by simp [fitsB]; omega, rfl⟩
  have k1 : (m == 1) = false := by simpa using h1
  have k2 : (m == 2) = false := by simpa using h2
  have k4 : (m == 4) = false := by simpa using h4
  go_in; go_wp2; go_ret
  exact ⟨by simp [fitsB, h1, h2, h4], rfl⟩

theorem fits_own (v m : Int) (h0 : 0 ≤ v) (hv : v ≤ 18446744073709551615) (w : World) : Calls Try.prog 90 #[.int .u64 v, .int .i64 m] w fun e w' => e = .returned (.bool (fitsB v m)) ∧ w = w' := by
  by_cases h4 : m = 4
  · subst h4; go_in; go_wp2; go_ret; exact ⟨by simp [fitsB], rfl⟩
  by_cases h1 : m = 1
  · subst h1
    go_in; go_wp2; go_ret
    exact ⟨retb (by simp only [fitsB]; rw [Bool.eq_iff_iff]; simp; omega), rfl⟩
  by_cases h2 : m = 2
  · subst h2
    go_in; go_wp2; go_ret
    exact ⟨retb (by simp only [fitsB]; rw [Bool.eq_iff_iff]; simp; omega), rfl⟩
  have k1 : (m == 1) = false := by simpa using h1
  have k2 : (m == 2) = false := by simpa using h2
  have k4 : (m == 4) = false := by simpa using h4
  go_in; go_wp2; go_ret
  exact ⟨by simp [fitsB, h1, h2, h4], rfl⟩

theorem pow_in (k : Nat) (h : k ≤ 63) : (1 : Int) ≤ 2 ^ k ∧ (2 : Int) ^ k ≤ 9223372036854775808 := by
  have a : 1 ≤ 2 ^ k := Nat.one_le_two_pow
  have b : 2 ^ k ≤ 2 ^ 63 := Nat.pow_le_pow_right (by omega) h
  have e : ((2 ^ k : Nat) : Int) = (2 : Int) ^ k := by simp
  omega
theorem pow_in2 (k : Nat) (h : k ≤ 62) : (2 : Int) ^ k ≤ 4611686018427387904 := by
  have b : 2 ^ k ≤ 2 ^ 62 := Nat.pow_le_pow_right (by omega) h
  have e : ((2 ^ k : Nat) : Int) = (2 : Int) ^ k := by simp
  omega
theorem pow_succ' (k : Nat) : (2 : Int) ^ k * 2 = 2 ^ (k + 1) := by rw [Int.pow_succ]

theorem half_any (m : Int) (h : m = 1 ∨ m = 2 ∨ m = 4) (w : World) : Calls Try.prog 53 #[.int .i64 m] w fun e w' => e = .returned (.int .u64 (halfS m)) ∧ w = w' := by
  obtain ⟨t, ht, hm⟩ : ∃ t : Nat, (t = 16 ∨ t = 32 ∨ t = 64) ∧ 16 * m = t := by
    rcases h with rfl | rfl | rfl
    · exact ⟨16, by simp, rfl⟩
    · exact ⟨32, by simp, rfl⟩
    · exact ⟨64, by simp, rfl⟩
  have hs : halfS m = 2 ^ (t - 1) := by
    rcases h with rfl | rfl | rfl
    · obtain rfl : t = 16 := by omega
      rfl
    · obtain rfl : t = 32 := by omega
      rfl
    · obtain rfl : t = 64 := by omega
      rfl
  rw [hs]
  have HM := Lib.hid hm
  clear hs hm
  go_in
  go_wp2
  go_loop [3, 4] (fun n i => ∃ k : Nat, k + 1 ≤ t ∧ i = .int .i64 (k + 1) ∧ n = .int .u64 (2 ^ k)) (fun _ i => t - (intOf i).toNat)
  case atStart => exact ⟨0, by omega, rfl, rfl⟩
  case round =>
    obtain ⟨k, hk, rfl, rfl⟩ := hrel
    have hb : (1 : Int) ≤ 2 ^ k ∧ (2 : Int) ^ k ≤ 9223372036854775808 := pow_in k (by omega)
    by_cases hlt : k + 1 < t
    · have hb2 : (2 : Int) ^ k ≤ 4611686018427387904 := pow_in2 k (by omega)
      have hlt' : (k : Int) + 1 < 16 * m := by have := HM.out; omega
      go_wp2
      go_round
      case rel => exact ⟨k + 1, by omega, by go_num, by congr 1⟩
      case measure => simp [intOf]; omega
    · have hlt' : ¬ (k : Int) + 1 < 16 * m := by have := HM.out; omega
      go_wp2
      go_ret
      obtain rfl : t = k + 1 := by omega
      exact ⟨rfl, rfl⟩

theorem signed_own (v m : Int) (h0 : 0 ≤ v) (hv : v ≤ 18446744073709551615) (w : World) : Calls Try.prog 87 #[.int .u64 v, .int .i64 m] w fun e w' => e = .returned (.tuple #[.int .i64 (signedV v m), .int .i64 (signedE v m)]) ∧ w = w' := by
  cases hf : fitsB v m with
  | false =>
    have HF := Lib.hid hf
    clear hf
    go_in
    go_wp2_with (go_at_call 90; refine (fits_own v m h0 hv _).mono ?_; rintro e w' ⟨rfl, rfl⟩; rw [HF.out])
    go_ret2
    exact ⟨ret2i (by simp [signedV, HF.out]) (by simp [signedE, HF.out]), rfl⟩
  | true =>
    have HF := Lib.hid hf
    have hm : m = 1 ∨ m = 2 ∨ m = 4 := by simp [fitsB] at hf; omega
    clear hf
    rcases hm with rfl | rfl | rfl
    all_goals
      go_in
      go_wp2_with (go_at_call 90; refine (fits_own v _ h0 hv _).mono ?_; rintro e w' ⟨rfl, rfl⟩; rw [HF.out])
      go_ret2
      refine ⟨ret2i ?_ (by simp [signedE, HF.out]), rfl⟩
      have hf := HF.out
      simp [fitsB] at hf
      unfold signedV
      rw [HF.out]
      simp only [halfS, wrap64, IntKind.wrap_u64]
      simp
      split <;> omega

theorem signed_ref (v m : Int) (h0 : 0 ≤ v) (hv : v ≤ 18446744073709551615) (w : World) : Calls Try.prog 49 #[.int .u64 v, .int .i64 m] w fun e w' => e = .returned (.tuple #[.int .i64 (signedV v m), .int .i64 (signedE v m)]) ∧ w = w' := by
  cases hf : fitsB v m with
  | false =>
    have HF := Lib.hid hf
    clear hf
    cases hm : mayB m with
    | false =>
      have HM := Lib.hid hm
      clear hm
      go_in
      go_wp2_with (go_at_call 28; refine (may_any m _).mono ?_; rintro e w' ⟨rfl, rfl⟩; rw [HM.out])
      go_ret2
      exact ⟨ret2i (by simp [signedV, HF.out]) (by simp [signedE, HF.out]), rfl⟩
    | true =>
      have HM := Lib.hid hm
      clear hm
      go_in
      go_wp2_with (first | (go_at_call 28; refine (may_any m _).mono ?_; rintro e w' ⟨rfl, rfl⟩; rw [HM.out]) | (go_at_call 51; refine (fits_ref v m _).mono ?_; rintro e w' ⟨rfl, rfl⟩; rw [HF.out]))
      go_ret2
      exact ⟨ret2i (by simp [signedV, HF.out]) (by simp [signedE, HF.out]), rfl⟩
  | true =>
    have hm : m = 1 ∨ m = 2 ∨ m = 4 := by simp [fitsB] at hf; omega
    have hmay : mayB m = true := by simp [mayB]; exact hm
    have hfv : v < 2 * halfS m := by
      simp [fitsB] at hf
      rcases hm with rfl | rfl | rfl <;> simp [halfS] <;> omega
    have hh : 1 ≤ halfS m ∧ halfS m ≤ 9223372036854775808 := by rcases hm with rfl | rfl | rfl <;> simp [halfS]
    have HM := Lib.hid hmay
    have HF := Lib.hid hf
    have HO := Lib.hid hm
    clear hf hm hmay
    by_cases hlt : v < halfS m
    all_goals
      go_in
      go_wp2_with (first | (go_at_call 28; refine (may_any m _).mono ?_; rintro e w' ⟨rfl, rfl⟩; rw [HM.out]) | (go_at_call 51; refine (fits_ref v m _).mono ?_; rintro e w' ⟨rfl, rfl⟩; rw [HF.out]) | (go_at_call 53; refine (half_any m HO.out _).mono ?_; rintro e w' ⟨rfl, rfl⟩))
      go_ret2
      refine ⟨ret2i ?_ (by simp [signedE, HF.out]), rfl⟩
      unfold signedV
      rw [HF.out]
      rw [if_pos rfl]
      split <;> omega

/-- What regs.Unsigned makes of a number ahead of its last test. -/
def outV (v m : Int) : Int := if m = 1 then IntKind.u64.wrap (IntKind.u64.wrap v * 281474976710656) / 281474976710656 else if m = 2 then IntKind.u64.wrap (IntKind.u64.wrap v * 4294967296) / 4294967296 else IntKind.u64.wrap (IntKind.u64.wrap v)
theorem outV_in (v m : Int) : 0 ≤ outV v m ∧ outV v m ≤ 18446744073709551615 := by
  unfold outV; simp only [u64w]; split
  · omega
  · split <;> omega
theorem outV_fits (v m : Int) (hm : m = 1 ∨ m = 2 ∨ m = 4) : fitsB (outV v m) m = true := by
  have := outV_in v 1
  rcases hm with rfl | rfl | rfl <;> simp [fitsB, outV, u64w] <;> omega
theorem outV_yes (v m : Int) (h : unsB v m = true) : signedV (outV v m) m = v ∧ outV v m = unsV v m := by
  have hm : m = 1 ∨ m = 2 ∨ m = 4 := by simp [unsB] at h; omega
  have hf := outV_fits v m hm
  unfold signedV unsV
  rw [hf, h, if_pos rfl, if_pos rfl]
  clear hf
  simp only [unsB, decide_eq_true_eq] at h
  obtain ⟨_, h1, h2⟩ := h
  rcases hm with rfl | rfl | rfl
  all_goals
    simp [outV, u64w, halfS] at h1 h2 ⊢
    constructor
    · split <;> omega
    · split <;> omega
theorem outV_no (v m : Int) (h0 : -9223372036854775808 ≤ v) (hv : v ≤ 9223372036854775807) (hm : m = 1 ∨ m = 2 ∨ m = 4) (h : unsB v m = false) : (signedV (outV v m) m != v) = true := by
  have hf := outV_fits v m hm
  rw [bne_iff_ne]
  unfold signedV
  rw [hf, if_pos rfl]
  clear hf
  simp only [unsB, decide_eq_false_iff_not] at h
  rcases hm with rfl | rfl | rfl
  all_goals
    simp [outV, u64w, halfS] at h ⊢
    split <;> omega

theorem uns_own (v m : Int) (h0 : -9223372036854775808 ≤ v) (hv : v ≤ 9223372036854775807) (w : World) : Calls Try.prog 88 #[.int .i64 v, .int .i64 m] w fun e w' => e = .returned (.tuple #[.int .u64 (unsV v m), .int .i64 (unsE v m)]) ∧ w = w' := by
  by_cases hm : m = 1 ∨ m = 2 ∨ m = 4
  · have hf : fitsB 0 m = true := by simp [fitsB]; omega
    have HF := Lib.hid hf
    clear hf
    have hi := outV_in v m
    have HI := Lib.hid hi
    cases hu : unsB v m with
    | true =>
      have HY := Lib.hid (outV_yes v m hu)
      have HU := Lib.hid hu
      clear hu hi
      rcases hm with rfl | rfl | rfl
      all_goals
        go_in
        go_wp2_with (first | (go_at_call 90; refine (fits_own 0 _ (by omega) (by omega) _).mono ?_; rintro e w' ⟨rfl, rfl⟩; rw [HF.out]) | (go_at_call 87; refine (signed_own (outV v _) _ HI.out.1 HI.out.2 _).mono ?_; rintro e w' ⟨rfl, rfl⟩; rw [HY.out.1]))
        go_ret2
        exact ⟨ret2i HY.out.2 (by simp [unsE, HU.out]), rfl⟩
    | false =>
      have HY := Lib.hid (outV_no v m h0 hv hm hu)
      have HU := Lib.hid hu
      clear hu hi
      rcases hm with rfl | rfl | rfl
      all_goals
        go_in
        go_wp2_with (first | (go_at_call 90; refine (fits_own 0 _ (by omega) (by omega) _).mono ?_; rintro e w' ⟨rfl, rfl⟩; rw [HF.out]) | (go_at_call 87; refine (signed_own (outV v _) _ HI.out.1 HI.out.2 _).mono ?_; rintro e w' ⟨rfl, rfl⟩; have hq := HY.out; revert hq; generalize signedV _ _ = q; intro hq))
        go_ret2
        exact ⟨ret2i (by simp [unsV, HU.out]) (by simp [unsE, HU.out]), rfl⟩
  · have hf : fitsB 0 m = false := by simp [fitsB]; omega
    have HF := Lib.hid hf
    have HO := Lib.hid hm
    clear hf hm
    go_in
    go_wp2_with (go_at_call 90; refine (fits_own 0 m (by omega) (by omega) _).mono ?_; rintro e w' ⟨rfl, rfl⟩; rw [HF.out])
    go_ret2
    have hu : unsB v m = false := by have := HO.out; simp [unsB]; omega
    exact ⟨ret2i (by simp [unsV, hu]) (by simp [unsE, hu]), rfl⟩

theorem uns_ref (v m : Int) (h0 : -9223372036854775808 ≤ v) (hv : v ≤ 9223372036854775807) (w : World) : Calls Try.prog 42 #[.int .i64 v, .int .i64 m] w fun e w' => e = .returned (.tuple #[.int .u64 (unsV v m), .int .i64 (unsE v m)]) ∧ w = w' := by
  by_cases hm : m = 1 ∨ m = 2 ∨ m = 4
  · have HM := Lib.hid (show mayB m = true by simp [mayB]; exact hm)
    have hh : 32768 ≤ halfS m ∧ halfS m ≤ 9223372036854775808 := by rcases hm with rfl | rfl | rfl <;> simp [halfS]
    have hu : unsB v m = decide (-(halfS m) ≤ v ∧ v < halfS m) := by simp [unsB, hm]
    have HU := Lib.hid hu
    have HO := Lib.hid hm
    clear hm hu
    by_cases h1 : halfS m - 1 < v
    · go_in
      go_wp2_with (first | (go_at_call 28; refine (may_any m _).mono ?_; rintro e w' ⟨rfl, rfl⟩; rw [HM.out]) | (go_at_call 53; refine (half_any m HO.out _).mono ?_; rintro e w' ⟨rfl, rfl⟩))
      go_ret2
      have hu : unsB v m = false := by rw [HU.out]; simp; omega
      exact ⟨ret2i (by simp [unsV, hu]) (by simp [unsE, hu]), rfl⟩
    by_cases h2 : v < -(halfS m - 1) - 1
    · go_in
      go_wp2_with (first | (go_at_call 28; refine (may_any m _).mono ?_; rintro e w' ⟨rfl, rfl⟩; rw [HM.out]) | (go_at_call 53; refine (half_any m HO.out _).mono ?_; rintro e w' ⟨rfl, rfl⟩))
      go_ret2
      have hu : unsB v m = false := by rw [HU.out]; simp; omega
      exact ⟨ret2i (by simp [unsV, hu]) (by simp [unsE, hu]), rfl⟩
    have hu : unsB v m = true := by rw [HU.out]; simp; omega
    have HU := Lib.hid hu
    clear hu
    by_cases h3 : 0 ≤ v
    · go_in
      go_wp2_with (first | (go_at_call 28; refine (may_any m _).mono ?_; rintro e w' ⟨rfl, rfl⟩; rw [HM.out]) | (go_at_call 53; refine (half_any m HO.out _).mono ?_; rintro e w' ⟨rfl, rfl⟩))
      go_ret2
      exact ⟨ret2i (by simp [unsV, HU.out, h3]) (by simp [unsE, HU.out]), rfl⟩
    · go_in
      go_wp2_with (first | (go_at_call 28; refine (may_any m _).mono ?_; rintro e w' ⟨rfl, rfl⟩; rw [HM.out]) | (go_at_call 53; refine (half_any m HO.out _).mono ?_; rintro e w' ⟨rfl, rfl⟩))
      go_ret2
      exact ⟨ret2i (by unfold unsV; rw [HU.out, if_pos rfl, if_neg (by omega)]; omega) (by simp [unsE, HU.out]), rfl⟩
  · have HM := Lib.hid (show mayB m = false by simp [mayB]; omega)
    have HO := Lib.hid hm
    clear hm
    go_in
    go_wp2_with (go_at_call 28; refine (may_any m _).mono ?_; rintro e w' ⟨rfl, rfl⟩; rw [HM.out])
    go_ret2
    have hu : unsB v m = false := by have := HO.out; simp [unsB]; omega
    exact ⟨ret2i (by simp [unsV, hu]) (by simp [unsE, hu]), rfl⟩

end Go.Proofs.Ytnnknnaimabehaa
