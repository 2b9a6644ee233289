/- civil: leap years, months' days, dates that may be, weekdays; the program's and the reference's. -/
import Derived.Test.YtgeocjodkkkiiaaDoorRows
import Derived.Test.YtgeocjodkkkiiaaDoorCivPlain
import Derived.Test.YtgeocjodkkkiiaaDoorMem
import Derived.Test.YtgeocjodkkkiiaaDoorTab
import Derived.WalkKit
import Derived.WalkSpells
import Derived.WalkLawsBesides
import Derived.BigQuiet
import Derived.Deep.QuietTactic
import Derived.Lib.Hide
namespace Go.Proofs.YtgeocjodkkkiiaaDoor
open Go.RowKit

theorem tz {y k : Int} (h : k ∣ y) : (y.tmod k == 0) = true := by simpa using Int.tmod_eq_zero_of_dvd h
theorem tn {y k : Int} (h : ¬ k ∣ y) : (y.tmod k == 0) = false := by
  rw [beq_eq_false_iff_ne]; exact fun e => h (Int.dvd_of_tmod_eq_zero e)
theorem tz' {y k : Int} (h : k ∣ y) : (y.tmod k != 0) = false := by simpa using Int.tmod_eq_zero_of_dvd h
theorem tn' {y k : Int} (h : ¬ k ∣ y) : (y.tmod k != 0) = true := by
  rw [bne_iff_ne]; exact fun e => h (Int.dvd_of_tmod_eq_zero e)
def lensL : List Int := [31, 28, 31, 30, 31, 30, 31, 31, 30, 31, 30, 31]
abbrev Lens (w : World) : Prop := Tab w 0 .i64 lensL

theorem leap_own (y : Int) (w : World) : Calls Tryd.prog 16 #[.int .i64 y] w fun e w' => e = .returned (.bool (leapB y)) ∧ w = w' := by
  by_cases h4 : (4 : Int) ∣ y
  · have k4 := tz h4
    by_cases h100 : (100 : Int) ∣ y
    · have k100 := tz' h100
      by_cases h400 : (400 : Int) ∣ y
      · have k400 := tz h400
        go_in; go_wp2; go_ret; exact ⟨retb (by simp [leapB]; omega), rfl⟩
      · have k400 := tn h400
        go_in; go_wp2; go_ret; exact ⟨retb (by simp [leapB]; omega), rfl⟩
    · have k100 := tn' h100
      go_in; go_wp2; go_ret; exact ⟨retb (by simp [leapB]; omega), rfl⟩
  · have k4 := tn h4
    go_in; go_wp2; go_ret; exact ⟨retb (by simp [leapB]; omega), rfl⟩
theorem leap_ref (y : Int) (w : World) : Calls Tryd.prog 17 #[.int .i64 y] w fun e w' => e = .returned (.bool (leapB y)) ∧ w = w' := by
  by_cases h400 : (400 : Int) ∣ y
  · have k400 := tz h400
    go_in; go_wp2; go_ret; exact ⟨retb (by simp [leapB]; omega), rfl⟩
  · have k400 := tn h400
    by_cases h4 : (4 : Int) ∣ y
    · have k4 := tz h4
      by_cases h100 : (100 : Int) ∣ y
      · have k100 := tz' h100
        go_in; go_wp2; go_ret; exact ⟨retb (by simp [leapB]; omega), rfl⟩
      · have k100 := tn' h100
        go_in; go_wp2; go_ret; exact ⟨retb (by simp [leapB]; omega), rfl⟩
    · have k4 := tn h4
      go_in; go_wp2; go_ret; exact ⟨retb (by simp [leapB]; omega), rfl⟩
/-- A year's leap day, laid as the walk asks it. -/
theorem leapI_of {y : Int} {b : Bool} (h : leapB y = b) : leapI y = if b = true then 1 else 0 := by unfold leapI; rw [h]

theorem days_own (y m : Int) (w : World) (T : Lens w) : Calls Tryd.prog 18 #[.int .i64 y, .int .i64 m] w fun e w' => e = .returned (.int .i64 (daysN y m)) ∧ w = w' := by
  by_cases h1 : m < 1
  · go_in; go_wp2; go_ret; exact ⟨reti (by simp [daysN, h1]), rfl⟩
  by_cases h2 : 12 < m
  · go_in; go_wp2; go_ret; exact ⟨reti (by simp [daysN, h2]), rfl⟩
  have c0 := T 0 (by decide)
  have c1 := T 1 (by decide)
  have c2 := T 2 (by decide)
  have c3 := T 3 (by decide)
  have c4 := T 4 (by decide)
  have c5 := T 5 (by decide)
  have c6 := T 6 (by decide)
  have c7 := T 7 (by decide)
  have c8 := T 8 (by decide)
  have c9 := T 9 (by decide)
  have c10 := T 10 (by decide)
  have c11 := T 11 (by decide)
  simp only [lensL, List.getD_cons_zero, List.getD_cons_succ] at c0 c1 c2 c3 c4 c5 c6 c7 c8 c9 c10 c11
  by_cases h3 : m = 2
  · subst h3
    cases hl : leapB y with
    | true =>
      have HL := Lib.hid hl
      clear hl
      go_in
      go_wp2_with (go_at_call 16; refine (leap_own y _).mono ?_; rintro e w' ⟨rfl, rfl⟩; rw [HL.out])
      go_ret
      exact ⟨reti (by simp [daysN, leapI, HL.out]), rfl⟩
    | false =>
      have HL := Lib.hid hl
      clear hl
      go_in
      go_wp2_with (go_at_call 16; refine (leap_own y _).mono ?_; rintro e w' ⟨rfl, rfl⟩; rw [HL.out])
      go_ret
      exact ⟨reti (by simp [daysN, leapI, HL.out]), rfl⟩
  · clear T
    have hm : m = 1 ∨ m = 3 ∨ m = 4 ∨ m = 5 ∨ m = 6 ∨ m = 7 ∨ m = 8 ∨ m = 9 ∨ m = 10 ∨ m = 11 ∨ m = 12 := by omega
    clear h1 h2 h3
    rcases hm with rfl | rfl | rfl | rfl | rfl | rfl | rfl | rfl | rfl | rfl | rfl
    all_goals
      go_in
      go_wp2
      go_ret
      exact ⟨reti (by simp [daysN]), rfl⟩
theorem days_ref (y m : Int) (w : World) : Calls Tryd.prog 19 #[.int .i64 y, .int .i64 m] w fun e w' => e = .returned (.int .i64 (daysN y m)) ∧ w = w' := by
  by_cases h3 : m = 2
  · subst h3
    cases hl : leapB y with
    | true =>
      have HL := Lib.hid hl
      clear hl
      go_in
      go_wp2_with (go_at_call 17; refine (leap_ref y _).mono ?_; rintro e w' ⟨rfl, rfl⟩; rw [HL.out])
      go_ret
      exact ⟨reti (by simp [daysN, leapI, HL.out]), rfl⟩
    | false =>
      have HL := Lib.hid hl
      clear hl
      go_in
      go_wp2_with (go_at_call 17; refine (leap_ref y _).mono ?_; rintro e w' ⟨rfl, rfl⟩; rw [HL.out])
      go_ret
      exact ⟨reti (by simp [daysN, leapI, HL.out]), rfl⟩
  by_cases h4 : m = 4
  · subst h4; go_in; go_wp2; go_ret; exact ⟨reti (by simp [daysN]), rfl⟩
  by_cases h6 : m = 6
  · subst h6; go_in; go_wp2; go_ret; exact ⟨reti (by simp [daysN]), rfl⟩
  by_cases h9 : m = 9
  · subst h9; go_in; go_wp2; go_ret; exact ⟨reti (by simp [daysN]), rfl⟩
  by_cases h11 : m = 11
  · subst h11; go_in; go_wp2; go_ret; exact ⟨reti (by simp [daysN]), rfl⟩
  have k2 : (m == 2) = false := by simpa using h3
  have k4 : (m == 4) = false := by simpa using h4
  have k6 : (m == 6) = false := by simpa using h6
  have k9 : (m == 9) = false := by simpa using h9
  have k11 : (m == 11) = false := by simpa using h11
  by_cases h1 : m < 1
  · go_in; go_wp2; go_ret; exact ⟨reti (by simp [daysN, h1]), rfl⟩
  by_cases h2 : 12 < m
  · go_in; go_wp2; go_ret; exact ⟨reti (by simp [daysN, h2]), rfl⟩
  go_in; go_wp2; go_ret; exact ⟨reti (by simp [daysN, h1, h2, h3, h4, h6, h9, h11]), rfl⟩
end Go.Proofs.YtgeocjodkkkiiaaDoor
