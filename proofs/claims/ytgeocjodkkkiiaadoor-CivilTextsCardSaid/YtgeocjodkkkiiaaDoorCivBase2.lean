/- civil: dates that may be, weekdays, the days ahead of a year; the program's and the reference's. -/
import Derived.Test.YtgeocjodkkkiiaaDoorCivBase
import Derived.Test.YtgeocjodkkkiiaaDoorMemB
import Derived.Test.YtgeocjodkkkiiaaDoorQuiet
namespace Go.Proofs.YtgeocjodkkkiiaaDoor
open Go.RowKit

theorem dayE_no {y m d : Int} (h : mayB y m d = false) : dayE y m d = 60 := by simp [dayE, h]
theorem dayE_yes {y m d : Int} (h : mayB y m d = true) : dayE y m d = 0 := by simp [dayE, h]

set_option maxHeartbeats 400000 in
theorem check_own (y m d : Int) (w : World) (T : Lens w) : Calls Tryd.prog 11 #[.agg #[.int .i64 y, .int .i64 m, .int .i64 d]] w fun e w' => e = .returned (.int .i64 (dayE y m d)) ∧ Below w.heap.size w w' := by
  have hE : ∀ b, mayB y m d = b → dayE y m d = if b = true then 0 else 60 := fun b hb => by simp [dayE, hb]
  by_cases h1 : y < 1970
  · have HE := Lib.hid (hE false (by simp [mayB]; omega))
    have g1 : decide (y < 1970) = true := by simpa using h1
    clear hE T
    go_in
    go_wp2
    go_quiet (fail)
    go_wp2
    go_ret
    exact ⟨reti HE.out.symm, below_drewN (below_alloc (Below.refl _ _) _) _⟩
  have g1 : decide (y < 1970) = false := by simpa using h1
  by_cases h2 : 9999 < y
  · have HE := Lib.hid (hE false (by simp [mayB]; omega))
    have g2 : decide (9999 < y) = true := by simpa using h2
    clear hE T
    go_in
    go_wp2
    go_quiet (fail)
    go_wp2
    go_ret
    exact ⟨reti HE.out.symm, below_drewN (below_alloc (Below.refl _ _) _) _⟩
  have g2 : decide (9999 < y) = false := by simpa using h2
  by_cases h3 : d < 1
  · have HE := Lib.hid (hE false (by simp [mayB]; omega))
    have g3 : decide (d < 1) = true := by simpa using h3
    clear hE T
    go_in
    go_wp2
    go_quiet (fail)
    go_wp2
    go_ret
    exact ⟨reti HE.out.symm, below_drewN (below_alloc (Below.refl _ _) _) _⟩
  have g3 : decide (d < 1) = false := by simpa using h3
  have HT := Lib.hid T
  by_cases h4 : daysN y m < d
  · have HE := Lib.hid (hE false (by simp [mayB]; omega))
    clear hE T
    go_in
    go_wp2
    go_quiet ((go_at_call 18; exact quiet_left (days_own y m _ (by exact (HT.out.alloc _).drewN _))))
    go_wp2
    go_ret
    exact ⟨reti HE.out.symm, below_drewN (below_alloc (Below.refl _ _) _) _⟩
  · have hm : mayB y m d = true := by
      rw [mayB_iff]
      have hd : 1 ≤ daysN y m := by omega
      have : 1 ≤ m ∧ m ≤ 12 := by unfold daysN at hd; split at hd <;> omega
      omega
    have HE := Lib.hid (hE true hm)
    clear hE T hm
    go_in
    go_wp2
    go_quiet ((go_at_call 18; exact quiet_left (days_own y m _ (by exact (HT.out.alloc _).drewN _))))
    go_wp2
    go_ret
    exact ⟨reti HE.out.symm, below_drewN (below_alloc (Below.refl _ _) _) _⟩

theorem leaps_any (n : Int) (h0 : 0 ≤ n) (h1 : n ≤ 100000) (w : World) : Calls Tryd.prog 41 #[.int .i64 n] w fun e w' => e = .returned (.int .i64 (n / 4 - n / 100 + n / 400)) ∧ w = w' := by
  go_in; go_wp2; go_ret; exact ⟨rfl, rfl⟩
theorem ahead_own (y : Int) (h0 : 1970 ≤ y) (h1 : y ≤ 10000) (w : World) : Calls Tryd.prog 36 #[.int .i64 y] w fun e w' => e = .returned (.int .i64 (aheadN y)) ∧ w = w' := by
  go_in
  go_wp2_with (go_at_call 41; refine (leaps_any _ (by omega) (by omega) _).mono ?_; rintro e w' ⟨rfl, rfl⟩)
  go_ret
  exact ⟨reti (by unfold aheadN; omega), rfl⟩
theorem weekday_own (n : Int) (w : World) : Calls Tryd.prog 20 #[.int .i64 n] w fun e w' => e = .returned (.int .i64 (wdN n)) ∧ w = w' := by
  by_cases h0 : n < 0
  · go_in; go_wp2; go_ret; exact ⟨reti (by simp [wdN, h0]), rfl⟩
  by_cases h1 : 2932896 < n
  · go_in; go_wp2; go_ret; exact ⟨reti (by simp [wdN, h1]), rfl⟩
  go_in; go_wp2; go_ret; exact ⟨reti (by unfold wdN; rw [if_neg (by omega)]; omega), rfl⟩
theorem weekday_ref (n : Int) (w : World) : Calls Tryd.prog 21 #[.int .i64 n] w fun e w' => e = .returned (.int .i64 (wdN n)) ∧ w = w' := by
  by_cases h0 : n < 0
  · go_in; go_wp2; go_ret; exact ⟨reti (by simp [wdN, h0]), rfl⟩
  by_cases h1 : 2932896 < n
  · go_in; go_wp2; go_ret; exact ⟨reti (by simp [wdN, h1]), rfl⟩
  go_in
  go_wp2
  go_loop [3, 4] (fun x i => ∃ k : Nat, (k : Int) ≤ n % 7 ∧ i = .int .i64 k ∧ x = .int .i64 ((k + 3) % 7 + 1)) (fun _ i => 7 - (intOf i).toNat)
  case atStart => exact ⟨0, by omega, rfl, rfl⟩
  case round =>
    obtain ⟨k, hk, rfl, rfl⟩ := hrel
    by_cases hlt : (k : Int) < n % 7
    · by_cases h3 : k = 3
      · subst h3
        go_wp2
        go_round
        case rel => exact ⟨4, by omega, rfl, rfl⟩
        case measure => simp [intOf]
      · have g3 : (((k : Int) + 3) % 7 + 1 + 1 == 8) = false := by simp; omega
        go_wp2
        go_round
        case rel => exact ⟨k + 1, by omega, by go_num, by congr 1; omega⟩
        case measure => simp [intOf]; omega
    · go_wp2
      go_ret
      exact ⟨reti (by unfold wdN; rw [if_neg (by omega)]; omega), rfl⟩
theorem may_ref (y m d : Int) (w : World) : Calls Tryd.prog 10 #[.int .i64 y, .int .i64 m, .int .i64 d] w fun e w' => e = .returned (.bool (mayB y m d)) ∧ w = w' := by
  by_cases h1 : 1970 ≤ y
  · by_cases h2 : y ≤ 9999
    · by_cases h3 : 1 ≤ m
      · by_cases h4 : m ≤ 12
        · by_cases h5 : 1 ≤ d
          · go_in
            go_wp2_with (go_at_call 19; refine (days_ref y m _).mono ?_; rintro e w' ⟨rfl, rfl⟩)
            go_ret
            exact ⟨retb (by simp [mayB, h1, h2, h3, h4, h5]), rfl⟩
          · go_in; go_wp2; go_ret; exact ⟨retb (by simp [mayB]; omega), rfl⟩
        · go_in; go_wp2; go_ret; exact ⟨retb (by simp [mayB]; omega), rfl⟩
      · go_in; go_wp2; go_ret; exact ⟨retb (by simp [mayB]; omega), rfl⟩
    · go_in; go_wp2; go_ret; exact ⟨retb (by simp [mayB]; omega), rfl⟩
  · go_in; go_wp2; go_ret; exact ⟨retb (by simp [mayB]; omega), rfl⟩
end Go.Proofs.YtgeocjodkkkiiaaDoor
