/- The law CivilNext: its walk. -/
import Derived.Test.YtgeocjodkkkiiaaDoorCivEq
import Derived.Test.YtgeocjodkkkiiaaDoorCivLawDays
namespace Go.Proofs.YtgeocjodkkkiiaaDoor
open Go.RowKit

theorem next_is (n y m d : Int) (h : IsD n y m d) (hn : n < 2932896) :
    (d + 1 ≤ daysN y m → IsD (n + 1) y m (d + 1)) ∧ (daysN y m < d + 1 → m < 12 → IsD (n + 1) y (m + 1) 1) ∧ (daysN y m < d + 1 → 12 ≤ m → IsD (n + 1) (y + 1) 1 1) := by
  obtain ⟨hm, hnum⟩ := h
  have hN := numN_in y m d hm
  have hm' := (mayB_iff y m d).1 hm
  obtain ⟨h1, h2, h3, h4, h5, h6⟩ := hm'
  obtain ⟨k, rfl⟩ : ∃ k : Nat, m = k + 1 := ⟨m.toNat - 1, by omega⟩
  have e : cumN y (k + 1) = cumN y k + daysN y (k + 1) := rfl
  unfold numN at hnum
  rw [show ((k : Int) + 1).toNat - 1 = k by omega] at hnum
  refine ⟨fun hd => ⟨(mayB_iff _ _ _).2 ⟨h1, h2, h3, h4, by omega, hd⟩, ?_⟩, fun hd hm1 => ?_, fun hd hm1 => ?_⟩
  · unfold numN
    rw [show ((k : Int) + 1).toNat - 1 = k by omega]; omega
  · have hlo := daysN_lo y ((k : Int) + 1 + 1) (by omega) (by omega)
    refine ⟨(mayB_iff _ _ _).2 ⟨h1, h2, by omega, by omega, by omega, by omega⟩, ?_⟩
    unfold numN
    rw [show ((k : Int) + 1 + 1).toNat - 1 = k + 1 by omega, e]; omega
  · obtain rfl : k = 11 := by omega
    have e12 := cumN_12 y
    have ha := aheadN_succ y
    have hy : y < 9999 := by
      rcases Int.lt_or_le y 9999 with h | h
      · exact h
      · obtain rfl : y = 9999 := by omega
        have := aheadN_end
        have e11 : cumN 9999 12 = cumN 9999 11 + daysN 9999 12 := rfl
        simp at ha hd
        omega
    have hlo := daysN_lo (y + 1) 1 (by omega) (by omega)
    refine ⟨(mayB_iff _ _ _).2 ⟨by omega, by omega, by omega, by omega, by omega, by omega⟩, ?_⟩
    unfold numN
    have h12 : ((11 : Nat) : Int) + 1 = 12 := rfl
    rw [h12] at h6 hd e
    rw [show cumN y (11 + 1) = 365 + leapI y from e12] at e
    rw [ha, show cumN (y + 1) ((1 : Int).toNat - 1) = 0 from rfl]
    omega

theorem wd_facts (n : Int) (h0 : 0 ≤ n) (h1 : n < 2932896) : 0 ≤ wdN n ∧ wdN n ≤ 7 ∧ (wdN (n + 1) == wdN n % 7 + 1) = true ∧ (n + 7 ≤ 2932896 → (wdN (n + 7) == wdN n) = true) := by
  unfold wdN
  rw [if_neg (by omega), if_neg (by omega)]
  refine ⟨by omega, by omega, by rw [beq_iff_eq]; omega, fun h => ?_⟩
  rw [if_neg (by omega)]; rw [beq_iff_eq]; omega

set_option maxHeartbeats 1000000 in
theorem alive_any (w : World) (T : Lens w) : Calls Tryd.prog 22 #[] w fun e w' => e = .returned (.bool true) ∧ Below w.heap.size w w' := by
  have HV := Lib.hid (show dayV 2000 3 1 = 11017 ∧ dayE 2000 3 1 = 0 ∧ wdN 11017 = 3 ∧ IsD 11016 2000 2 29 from ⟨by decide +kernel, by decide +kernel, by decide +kernel, by decide +kernel, by decide +kernel⟩)
  have HT := Lib.hid T
  have dg := date_guard
  have de := fun (w : World) => date_same w 2000 2 29
  clear T
  go_in
  go_wp2_with fail
  refine (day_own 2000 3 1 _ HT.out).mono ?_
  rintro e w1 ⟨rfl, hb1⟩
  rw [HV.out.1, HV.out.2.1]
  go_wp2_with fail
  refine (of_in 11016 (by omega) (by omega) _ (HT.out.up hb1)).mono ?_
  rintro e w2 ⟨⟨y1, m1, d1, hi1, rfl⟩, hb2⟩
  obtain ⟨rfl, rfl, rfl⟩ := isD_one hi1 HV.out.2.2.2
  clear hi1
  go_wp2_with (go_at_call 20; refine (weekday_own _ _).mono ?_; rintro e w' ⟨rfl, rfl⟩; rw [HV.out.2.2.1])
  go_ret
  exact ⟨rfl, below_alloc (below_step hb1 hb2) _⟩

set_option maxRecDepth 100000 in
set_option maxHeartbeats 4000000 in
theorem law_next_out (n : Int) (h : n < 0 ∨ 2932896 ≤ n) (w : World) (T : Lens w) : Calls Tryd.prog 4 #[.int .i64 n] w fun e w' => e = .returned (.bool true) ∧ Below w.heap.size w w' := by
  have HT := Lib.hid T
  clear T
  by_cases h1 : 2932896 < n
  · go_in
    go_wp2_with fail
    refine (alive_any _ HT.out).mono ?_
    rintro e w1 ⟨rfl, hb1⟩
    go_wp2_with fail
    refine (of_no n (by omega) _).mono ?_
    rintro e w2 ⟨rfl, hb2⟩
    go_wp2
    go_ret
    exact ⟨rfl, below_alloc (below_step hb1 hb2) _⟩
  by_cases h2 : n < 0
  · go_in
    go_wp2_with fail
    refine (alive_any _ HT.out).mono ?_
    rintro e w1 ⟨rfl, hb1⟩
    go_wp2_with fail
    refine (of_no n (by omega) _).mono ?_
    rintro e w2 ⟨rfl, hb2⟩
    go_wp2
    go_ret
    exact ⟨rfl, below_alloc (below_step hb1 hb2) _⟩
  · obtain rfl : n = 2932896 := by omega
    go_in
    go_wp2_with fail
    refine (alive_any _ HT.out).mono ?_
    rintro e w1 ⟨rfl, hb1⟩
    go_wp2_with fail
    refine (of_in 2932896 (by omega) (by omega) _ (HT.out.up hb1)).mono ?_
    rintro e w2 ⟨⟨y1, m1, d1, hi1, rfl⟩, hb2⟩
    clear hi1
    go_wp2
    go_ret
    exact ⟨rfl, below_alloc (below_step hb1 hb2) _⟩

end Go.Proofs.YtgeocjodkkkiiaaDoor
