/- The reference's Nth. -/
import Derived.Test.YtgeocjodkkkiiaaDoorCivNths
namespace Go.Proofs.YtgeocjodkkkiiaaDoor
open Go.RowKit

def rnV (y m k n : Int) : Value := if nthB y m k n = true then .tuple #[.int .i64 (nthD y m k n), .int .i64 0] else .tuple #[.int .i64 0, .int .i64 60]
theorem rnV_no {y m k n : Int} (h : nthB y m k n = false) : rnV y m k n = .tuple #[.int .i64 0, .int .i64 60] := by rw [rnV, if_neg (by simp [h])]
theorem wd_hit (y m k : Int) (h : mayB y m 1 = true) (k1 : 1 ≤ k) (k7 : k ≤ 7) (j : Nat) (hd : (j : Int) + 1 ≤ daysN y m) : wdN (numN y m ((j : Int) + 1)) = k ↔ ((j : Int) + 1 - firstW y m k) % 7 = 0 := by
  have hM : mayB y m ((j : Int) + 1) = true := by rw [may_day _ _ _ h]; simp; omega
  have hb := numN_bd _ _ _ hM
  have hb1 := numN_bd _ _ _ h
  have e : numN y m ((j : Int) + 1) = numN y m 1 + j := by unfold numN; omega
  have hw : wdN (numN y m 1) = (numN y m 1 + 3) % 7 + 1 := by unfold wdN; rw [if_neg (by omega)]
  have hw2 : wdN (numN y m ((j : Int) + 1)) = (numN y m ((j : Int) + 1) + 3) % 7 + 1 := by unfold wdN; rw [if_neg (by omega)]
  rw [hw2, e]
  unfold firstW
  rw [hw]
  omega

set_option maxHeartbeats 2000000 in
theorem rnth_bad (y m k n : Int) (w : World) (h : ¬ (mayB y m 1 = true ∧ 1 ≤ k ∧ k ≤ 7 ∧ (n = -1 ∨ 1 ≤ n ∧ n ≤ 5))) : Calls Tryd.prog 35 #[.int .i64 y, .int .i64 m, .int .i64 k, .int .i64 n] w fun e w' => e = .returned (.tuple #[.int .i64 0, .int .i64 60]) ∧ w = w' := by
  cases hm : mayB y m 1 with
  | false =>
    clear h
    go_in
    go_wp2_with (go_at_call 10; refine (may_ref _ _ _ _).mono ?_; rintro e w' ⟨rfl, rfl⟩; rw [hm])
    go_ret2
    exact ⟨rfl, rfl⟩
  | true =>
    by_cases k1 : k < 1
    · clear h
      go_in
      go_wp2_with (go_at_call 10; refine (may_ref _ _ _ _).mono ?_; rintro e w' ⟨rfl, rfl⟩; rw [hm])
      go_ret2
      exact ⟨rfl, rfl⟩
    by_cases k7 : 7 < k
    · clear h
      go_in
      go_wp2_with (go_at_call 10; refine (may_ref _ _ _ _).mono ?_; rintro e w' ⟨rfl, rfl⟩; rw [hm])
      go_ret2
      exact ⟨rfl, rfl⟩
    have hn : n ≠ -1 ∧ (n < 1 ∨ 5 < n) := by
      rw [hm] at h
      refine ⟨fun e => h ⟨rfl, by omega, by omega, Or.inl e⟩, ?_⟩
      by_cases q : n < 1
      · exact Or.inl q
      · exact Or.inr (by
          by_cases q5 : 5 < n
          · exact q5
          · exact absurd ⟨rfl, by omega, by omega, Or.inr ⟨by omega, by omega⟩⟩ h)
    have g6 : (n != -1) = true := by simp; omega
    have g7 : (n == -1) = false := by simp; omega
    clear h
    rcases hn.2 with n1 | n5
    · go_in
      go_wp2_with (go_at_call 10; refine (may_ref _ _ _ _).mono ?_; rintro e w' ⟨rfl, rfl⟩; rw [hm])
      go_ret2
      exact ⟨rfl, rfl⟩
    · have n1 : ¬ n < 1 := by omega
      go_in
      go_wp2_with (go_at_call 10; refine (may_ref _ _ _ _).mono ?_; rintro e w' ⟨rfl, rfl⟩; rw [hm])
      go_ret2
      exact ⟨rfl, rfl⟩

/-- How many such weekdays are within the first j days of the month. -/
def cntW (F : Int) (j : Nat) : Int := ((j : Int) - F + 7) / 7

set_option maxRecDepth 100000 in
set_option maxHeartbeats 4000000 in
theorem rnth_good (y m k n : Int) (w : World) (hm : mayB y m 1 = true) (k1 : 1 ≤ k) (k7 : k ≤ 7) (hn : n = -1 ∨ 1 ≤ n ∧ n ≤ 5) : Calls Tryd.prog 35 #[.int .i64 y, .int .i64 m, .int .i64 k, .int .i64 n] w fun e w' => e = .returned (rnV y m k n) ∧ w = w' := by
  have hf := firstW_in y m k
  have hmm := (mayB_iff y m 1).1 hm
  have hdl := daysN_lo y m hmm.2.2.1 hmm.2.2.2.1
  have hdh := daysN_in y m
  clear hmm
  have HW := Lib.hid (wd_hit y m k hm k1 k7)
  have HD := Lib.hid (fun (D : Int) (h1 : 1 ≤ D) (h2 : D ≤ daysN y m) => (show dayV y m D = numN y m D ∧ dayE y m D = 0 by
    have : mayB y m D = true := by rw [may_day _ _ _ hm]; simp; omega
    simp [dayV, dayE, this]))
  have HV1 := Lib.hid (fun (h : n = -1) => (show rnV y m k n = .tuple #[.int .i64 (firstW y m k + 7 * ((daysN y m - firstW y m k) / 7)), .int .i64 0] by
    subst h; rw [rnV, if_pos (nthB_last y m k hm k1 k7), nthD_last]))
  have HV2 := Lib.hid (fun (h : 1 ≤ n) (h5 : n ≤ 5) (hh : firstW y m k + 7 * (n - 1) ≤ daysN y m) => (show rnV y m k n = .tuple #[.int .i64 (firstW y m k + 7 * (n - 1)), .int .i64 0] by
    have e : n = (((n - 1).toNat : Nat) : Int) + 1 := by omega
    have hb := nthB_j y m k hm k1 k7 (n - 1).toNat (by omega)
    have hd := nthD_j y m k (n - 1).toNat
    rw [← e] at hb hd
    rw [rnV, if_pos (by rw [hb]; simp; omega), hd]
    rw [show (((n - 1).toNat : Nat) : Int) = n - 1 by omega]))
  have HV3 := Lib.hid (fun (h : 1 ≤ n) (h5 : n ≤ 5) (hh : daysN y m < firstW y m k + 7 * (n - 1)) => (show rnV y m k n = .tuple #[.int .i64 0, .int .i64 60] by
    have e : n = (((n - 1).toNat : Nat) : Int) + 1 := by omega
    have hb := nthB_j y m k hm k1 k7 (n - 1).toNat (by omega)
    rw [← e] at hb
    exact rnV_no (by rw [hb]; simp; omega)))
  generalize firstW y m k = F at hf HW HV1 HV2 HV3
  have g1 : ¬ k < 1 := by omega
  have g7 : ¬ 7 < k := by omega
  have HG := Lib.hid hn
  have go : ∀ (c : Bool), (n == -1) = c → (c = false → ¬ n < 1 ∧ ¬ 5 < n) → Calls Tryd.prog 35 #[.int .i64 y, .int .i64 m, .int .i64 k, .int .i64 n] w fun e w' => e = .returned (rnV y m k n) ∧ w = w' := by
    intro c hc hcn
    have hc' : (n != -1) = !c := by rw [← hc]; rfl
    have HC := Lib.hid hc
    cases c
    case false =>
      obtain ⟨n1, n5⟩ := hcn rfl
      clear hcn hn
      go_in
      go_wp2_with (go_at_call 10; refine (may_ref _ _ _ _).mono ?_; rintro e w' ⟨rfl, rfl⟩; rw [hm])
      go_loop [10, 11, 12] (fun met last d => ∃ j : Nat, (j : Int) ≤ daysN y m ∧ d = .int .i64 ((j : Int) + 1) ∧ met = .int .i64 (cntW F j) ∧ last = .int .i64 (if cntW F j = 0 then 0 else F + 7 * (cntW F j - 1)) ∧ cntW F j < n) (fun _ _ d => 40 - (intOf d).toNat)
      case atStart => exact ⟨0, by omega, rfl, iv (by unfold cntW; omega), iv (by rw [if_pos (by unfold cntW; omega)]), by (try unfold cntW); omega⟩
      case round =>
        obtain ⟨j, hj, rfl, rfl, rfl, hlt⟩ := hrel
        have hcj : cntW F j = ((j : Int) - F + 7) / 7 := rfl
        have hcn : cntW F (j + 1) = ((j : Int) + 1 - F + 7) / 7 := by unfold cntW; omega
        generalize cntW F j = C at hcj hlt ⊢
        obtain ⟨LL, hLL⟩ : ∃ LL, (if C = 0 then (0 : Int) else F + 7 * (C - 1)) = LL := ⟨_, rfl⟩
        rw [hLL]
        have HLL := Lib.hid hLL
        clear hLL
        obtain ⟨C2, QC⟩ : ∃ C2, cntW F (j + 1) = C2 := ⟨_, rfl⟩
        rw [QC] at hcn
        have hC0 : 0 ≤ C ∧ C ≤ 5 := by omega
        by_cases hjd : (j : Int) + 1 ≤ daysN y m
        · obtain ⟨dv, de⟩ := HD.out ((j : Int) + 1) (by omega) hjd
          have hw := HW.out j hjd
          obtain ⟨q, QW⟩ : ∃ q, wdN (numN y m ((j : Int) + 1)) = q := ⟨_, rfl⟩
          rw [QW] at hw
          by_cases hr : ((j : Int) + 1 - F) % 7 = 0
          · obtain rfl := hw.2 hr
            clear hw
            have hC2 : C2 = C + 1 := by omega
            have HJ := Lib.hid (show (j : Int) + 1 = F + 7 * C by omega)
            clear hcn hcj hr
            by_cases h1n : C + 1 = n
            · have g : (C + 1 == n) = true := by simpa using h1n
              have HV := Lib.hid (show rnV y m _ n = .tuple #[.int .i64 ((j : Int) + 1), .int .i64 0] by
                have hjj := HJ.out
                rw [HV2.out n1 n5 (by omega), show F + 7 * (n - 1) = (j : Int) + 1 by omega])
              go_wp2_with (first
              | (go_at_call 19; refine (days_ref _ _ _).mono ?_; rintro e w' ⟨rfl, rfl⟩)
              | (go_at_call 13; refine (day_ref _ _ _ _).mono ?_; rintro e w' ⟨rfl, rfl⟩; rw [dv, de])
              | (go_at_call 21; refine (weekday_ref _ _).mono ?_; rintro e w' ⟨rfl, rfl⟩; rw [QW]))
              go_ret2
              exact ⟨congrArg _ HV.out.symm, rfl⟩
            · have g : (C + 1 == n) = false := by simpa using h1n
              go_wp2_with (first
              | (go_at_call 19; refine (days_ref _ _ _).mono ?_; rintro e w' ⟨rfl, rfl⟩)
              | (go_at_call 13; refine (day_ref _ _ _ _).mono ?_; rintro e w' ⟨rfl, rfl⟩; rw [dv, de])
              | (go_at_call 21; refine (weekday_ref _ _).mono ?_; rintro e w' ⟨rfl, rfl⟩; rw [QW]))
              go_round
              case rel => exact ⟨j + 1, by omega, by go_num, iv (by rw [QC, hC2]), iv (by have hjj := HJ.out; rw [QC, hC2, if_neg (by omega)]; omega), by (try rw [QC, hC2]); omega⟩
              case measure => simp [intOf]; omega
          · have hq : (q != k) = true := by simp; exact fun e => hr (hw.1 e)
            clear hw
            have hC2 : C2 = C := by omega
            clear hcn hcj hr
            go_wp2_with (first
              | (go_at_call 19; refine (days_ref _ _ _).mono ?_; rintro e w' ⟨rfl, rfl⟩)
              | (go_at_call 13; refine (day_ref _ _ _ _).mono ?_; rintro e w' ⟨rfl, rfl⟩; rw [dv, de])
              | (go_at_call 21; refine (weekday_ref _ _).mono ?_; rintro e w' ⟨rfl, rfl⟩; rw [QW]))
            go_round
            case rel => exact ⟨j + 1, by omega, by go_num, iv (by rw [QC, hC2]), iv (by rw [QC, hC2]; exact HLL.out.symm), by (try rw [QC, hC2]); omega⟩
            case measure => simp [intOf]; omega
        · have HV := Lib.hid (HV3.out n1 n5 (by omega))
          clear hcj hcn
          go_wp2_with (go_at_call 19; refine (days_ref _ _ _).mono ?_; rintro e w' ⟨rfl, rfl⟩)
          go_ret2
          exact ⟨congrArg _ HV.out.symm, rfl⟩
    case true =>
      obtain rfl : n = -1 := by simpa using hc
      clear hcn hn
      go_in
      go_wp2_with (go_at_call 10; refine (may_ref _ _ _ _).mono ?_; rintro e w' ⟨rfl, rfl⟩; rw [hm])
      go_loop [10, 11, 12] (fun met last d => ∃ j : Nat, (j : Int) ≤ daysN y m ∧ d = .int .i64 ((j : Int) + 1) ∧ met = .int .i64 (cntW F j) ∧ last = .int .i64 (if cntW F j = 0 then 0 else F + 7 * (cntW F j - 1)) ∧ 0 ≤ (j : Int)) (fun _ _ d => 40 - (intOf d).toNat)
      case atStart => exact ⟨0, by omega, rfl, iv (by unfold cntW; omega), iv (by rw [if_pos (by unfold cntW; omega)]), by (try unfold cntW); omega⟩
      case round =>
        obtain ⟨j, hj, rfl, rfl, rfl, hlt⟩ := hrel
        have hcj : cntW F j = ((j : Int) - F + 7) / 7 := rfl
        have hcn : cntW F (j + 1) = ((j : Int) + 1 - F + 7) / 7 := by unfold cntW; omega
        generalize cntW F j = C at hcj hlt ⊢
        obtain ⟨LL, hLL⟩ : ∃ LL, (if C = 0 then (0 : Int) else F + 7 * (C - 1)) = LL := ⟨_, rfl⟩
        rw [hLL]
        have HLL := Lib.hid hLL
        clear hLL
        obtain ⟨C2, QC⟩ : ∃ C2, cntW F (j + 1) = C2 := ⟨_, rfl⟩
        rw [QC] at hcn
        have hC0 : 0 ≤ C ∧ C ≤ 5 := by omega
        by_cases hjd : (j : Int) + 1 ≤ daysN y m
        · obtain ⟨dv, de⟩ := HD.out ((j : Int) + 1) (by omega) hjd
          have hw := HW.out j hjd
          obtain ⟨q, QW⟩ : ∃ q, wdN (numN y m ((j : Int) + 1)) = q := ⟨_, rfl⟩
          rw [QW] at hw
          by_cases hr : ((j : Int) + 1 - F) % 7 = 0
          · obtain rfl := hw.2 hr
            clear hw
            have hC2 : C2 = C + 1 := by omega
            have HJ := Lib.hid (show (j : Int) + 1 = F + 7 * C by omega)
            clear hcn hcj hr
            have g : (C + 1 == -1) = false := by simp; omega
            go_wp2_with (first
              | (go_at_call 19; refine (days_ref _ _ _).mono ?_; rintro e w' ⟨rfl, rfl⟩)
              | (go_at_call 13; refine (day_ref _ _ _ _).mono ?_; rintro e w' ⟨rfl, rfl⟩; rw [dv, de])
              | (go_at_call 21; refine (weekday_ref _ _).mono ?_; rintro e w' ⟨rfl, rfl⟩; rw [QW]))
            go_round
            case rel => exact ⟨j + 1, by omega, by go_num, iv (by rw [QC, hC2]), iv (by have hjj := HJ.out; rw [QC, hC2, if_neg (by omega)]; omega), by (try rw [QC, hC2]); omega⟩
            case measure => simp [intOf]; omega
          · have hq : (q != k) = true := by simp; exact fun e => hr (hw.1 e)
            clear hw
            have hC2 : C2 = C := by omega
            clear hcn hcj hr
            go_wp2_with (first
              | (go_at_call 19; refine (days_ref _ _ _).mono ?_; rintro e w' ⟨rfl, rfl⟩)
              | (go_at_call 13; refine (day_ref _ _ _ _).mono ?_; rintro e w' ⟨rfl, rfl⟩; rw [dv, de])
              | (go_at_call 21; refine (weekday_ref _ _).mono ?_; rintro e w' ⟨rfl, rfl⟩; rw [QW]))
            go_round
            case rel => exact ⟨j + 1, by omega, by go_num, iv (by rw [QC, hC2]), iv (by rw [QC, hC2]; exact HLL.out.symm), by (try rw [QC, hC2]); omega⟩
            case measure => simp [intOf]; omega
        · have HV := Lib.hid (HV1.out (by simp))
          have hif : LL = F + 7 * ((daysN y m - F) / 7) := by rw [← HLL.out, if_neg (by omega)]; omega
          rw [hif]
          clear hcj hcn hif
          go_wp2_with (go_at_call 19; refine (days_ref _ _ _).mono ?_; rintro e w' ⟨rfl, rfl⟩)
          go_ret2
          exact ⟨congrArg _ HV.out.symm, rfl⟩
  cases hc : n == -1 with
  | true => exact go true hc (fun h => by cases h)
  | false => exact go false hc (fun _ => by
      have h1 : n ≠ -1 := by simpa using hc
      rcases hn with h | h
      · exact absurd h h1
      · omega)

theorem rnth (y m k n : Int) (w : World) : Calls Tryd.prog 35 #[.int .i64 y, .int .i64 m, .int .i64 k, .int .i64 n] w fun e w' => e = .returned (rnV y m k n) ∧ w = w' := by
  by_cases h : mayB y m 1 = true ∧ 1 ≤ k ∧ k ≤ 7 ∧ (n = -1 ∨ 1 ≤ n ∧ n ≤ 5)
  · exact rnth_good y m k n w h.1 h.2.1 h.2.2.1 h.2.2.2
  · have HN : nthB y m k n = false := by
      cases hb : nthB y m k n with
      | false => rfl
      | true =>
        simp only [nthB, Bool.and_eq_true, decide_eq_true_eq] at hb
        exact (h ⟨hb.1.1, hb.1.2⟩).elim
    rw [rnV_no HN]
    exact rnth_bad y m k n w h
end Go.Proofs.YtgeocjodkkkiiaaDoor
