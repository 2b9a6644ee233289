/- fixq.Add, ledger.sum. -/
import Derived.Test.YtjcpgnachkhjaaaDoorLedBook
import Derived.Test.YtjcpgnachkhjaaaDoorRows
import Derived.Lib.Hide
import Derived.WalkLawsBesides
import Derived.WalkSpells
namespace Go.Proofs.YtjcpgnachkhjaaaDoor
open Go.RowKit
attribute [local go_sem] Oper.semAt_some
set_option linter.unusedVariables false
set_option linter.unusedSimpArgs false

theorem add_any (a b : Int) (ha : amt a) (hb : amt b) (w : World) : Calls Tryd.prog 56 #[.int .i64 a, .int .i64 b] w fun e w' => e = .returned (.tuple (if a + b = 9223372036854775808 then #[.int .i64 0, .int .i64 10] else #[.int .i64 (a + b), .int .i64 0])) ∧ w' = w := by
  unfold amt at ha hb
  by_cases h : a + b = 9223372036854775808
  · rw [if_pos h]
    have h1 : a = 4611686018427387904 := by omega
    have h2 : b = 4611686018427387904 := by omega
    subst h1 h2
    have e : wrap64 9223372036854775808 = -9223372036854775808 := by unfold wrap64; omega
    go_in
    go_wp2
    go_ret2
    exact ⟨rfl, rfl⟩
  · rw [if_neg h]
    by_cases hb0 : 0 < b
    · have h1 : decide (a < a + b) = true := by simp; omega
      go_in
      go_wp2
      go_ret2
      exact ⟨rfl, rfl⟩
    · have h1 : decide (a < a + b) = false := by simp; omega
      have h2 : decide (0 < b) = false := by simp; omega
      go_in
      go_wp2
      go_ret2
      exact ⟨rfl, rfl⟩
theorem sum_any (a b : Int) (ha : amt a) (hb : amt b) (w : World) : Calls Tryd.prog 49 #[.int .i64 a, .int .i64 b] w fun e w' => e = .returned (.tuple #[.int .i64 (sumP a b).1, .int .i64 (sumP a b).2]) ∧ w' = w := by
  have HA := Lib.hid (add_any a b ha hb w)
  unfold amt at ha hb
  by_cases h : a + b = 9223372036854775808
  · have hs : sumP a b = (0, 10) := by unfold sumP; rw [if_neg (by omega)]
    rw [hs]
    rw [if_pos h] at HA
    clear h hs
    go_in
    go_wp2_with (go_at_call 56; refine HA.out.mono ?_; rintro e w' ⟨rfl, rfl⟩)
    go_ret2
    exact ⟨rfl, rfl⟩
  · rw [if_neg h] at HA
    by_cases h1 : 4611686018427387904 < a + b
    · have hs : sumP a b = (0, 10) := by unfold sumP; rw [if_neg (by omega)]
      rw [hs]
      clear h hs
      go_in
      go_wp2_with (go_at_call 56; refine HA.out.mono ?_; rintro e w' ⟨rfl, rfl⟩)
      go_ret2
      exact ⟨rfl, rfl⟩
    · by_cases h2 : a + b < -4611686018427387904
      · have hs : sumP a b = (0, 10) := by unfold sumP; rw [if_neg (by omega)]
        rw [hs]
        have h3 : a + b ≤ 4611686018427387904 := by omega
        clear h hs h1
        go_in
        go_wp2_with (go_at_call 56; refine HA.out.mono ?_; rintro e w' ⟨rfl, rfl⟩)
        go_ret2
        exact ⟨rfl, rfl⟩
      · have hs : sumP a b = (a + b, 0) := by unfold sumP; rw [if_pos (by omega)]
        rw [hs]
        have h3 : a + b ≤ 4611686018427387904 := by omega
        have h4 : -4611686018427387904 ≤ a + b := by omega
        clear h hs h1 h2
        go_in
        go_wp2_with (go_at_call 56; refine HA.out.mono ?_; rintro e w' ⟨rfl, rfl⟩)
        go_ret2
        exact ⟨rfl, rfl⟩
theorem sumP_in (a b : Int) : amt (sumP a b).1 ∧ 0 ≤ (sumP a b).2 ∧ (sumP a b).2 ≤ 10 := by
  unfold sumP amt
  split <;> simp <;> omega
end Go.Proofs.YtjcpgnachkhjaaaDoor
