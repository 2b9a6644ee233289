/- The calendar, in plain numbers. -/
import Derived.WalkKit
namespace Go.Proofs.YtgeocjodkkkiiaaDoor
open Go.RowKit

def leapB (y : Int) : Bool := decide (y % 4 = 0 ∧ (y % 100 ≠ 0 ∨ y % 400 = 0))
def leapI (y : Int) : Int := if leapB y = true then 1 else 0
theorem leapI_in (y : Int) : 0 ≤ leapI y ∧ leapI y ≤ 1 := by unfold leapI; split <;> omega
def daysN (y m : Int) : Int := if m < 1 ∨ 12 < m then 0 else if m = 2 then 28 + leapI y else if m = 4 ∨ m = 6 ∨ m = 9 ∨ m = 11 then 30 else 31
theorem daysN_in (y m : Int) : 0 ≤ daysN y m ∧ daysN y m ≤ 31 := by
  have := leapI_in y
  unfold daysN; split
  · omega
  · split
    · omega
    · split <;> omega
theorem daysN_lo (y m : Int) (h : 1 ≤ m) (h' : m ≤ 12) : 28 ≤ daysN y m := by
  have := leapI_in y
  unfold daysN; rw [if_neg (by omega)]; split
  · omega
  · split <;> omega
/-- The days ahead of a year. -/
def aheadN (y : Int) : Int := 365 * (y - 1970) + ((y - 1) / 4 - (y - 1) / 100 + (y - 1) / 400) - 477
theorem aheadN_succ (y : Int) : aheadN (y + 1) = aheadN y + 365 + leapI y := by
  unfold aheadN leapI leapB
  simp only [decide_eq_true_eq]
  split <;> omega
theorem aheadN_start : aheadN 1970 = 0 := by decide +kernel
theorem aheadN_end : aheadN 10000 = 2932897 := by decide +kernel
theorem aheadN_le (a b : Int) (h : a ≤ b) : aheadN a + 365 * (b - a) ≤ aheadN b := by unfold aheadN; omega
theorem aheadN_hi (a b : Int) (h : a ≤ b) : aheadN b ≤ aheadN a + 366 * (b - a) := by unfold aheadN; omega
/-- The days ahead of a month. -/
def cumN (y : Int) : Nat → Int
  | 0 => 0
  | k + 1 => cumN y k + daysN y (k + 1)
theorem cumN_in (y : Int) (k : Nat) : 0 ≤ cumN y k ∧ cumN y k ≤ 31 * k := by
  induction k with
  | zero => simp [cumN]
  | succ k ih =>
    have := daysN_in y (k + 1)
    simp only [cumN]
    omega
theorem cumN_12 (y : Int) : cumN y 12 = 365 + leapI y := by
  simp [cumN, daysN]; omega
theorem cumN_le (y : Int) (j k : Nat) (h : j < k) : cumN y j + daysN y (j + 1) ≤ cumN y k := by
  induction k with
  | zero => omega
  | succ k ih =>
    rcases Nat.lt_or_ge j k with h1 | h1
    · have := ih h1
      have := daysN_in y (k + 1)
      simp only [cumN]; omega
    · obtain rfl : j = k := by omega
      simp only [cumN]; omega
def mayB (y m d : Int) : Bool := decide (1970 ≤ y ∧ y ≤ 9999 ∧ 1 ≤ m ∧ m ≤ 12 ∧ 1 ≤ d ∧ d ≤ daysN y m)
theorem mayB_iff (y m d : Int) : mayB y m d = true ↔ 1970 ≤ y ∧ y ≤ 9999 ∧ 1 ≤ m ∧ m ≤ 12 ∧ 1 ≤ d ∧ d ≤ daysN y m := by simp [mayB]
/-- A date's day. -/
def numN (y m d : Int) : Int := aheadN y + cumN y (m.toNat - 1) + d - 1
def dayV (y m d : Int) : Int := if mayB y m d = true then numN y m d else 0
def dayE (y m d : Int) : Int := if mayB y m d = true then 0 else 60
/-- A date is the date of a day. -/
def IsD (n y m d : Int) : Prop := mayB y m d = true ∧ numN y m d = n
theorem numN_in (y m d : Int) (h : mayB y m d = true) : aheadN y ≤ numN y m d ∧ numN y m d < aheadN (y + 1) := by
  rw [mayB_iff] at h
  have h1 := cumN_in y (m.toNat - 1)
  have h2 := cumN_le y (m.toNat - 1) 12 (by omega)
  rw [show ((m.toNat - 1 : Nat) : Int) + 1 = m by omega, cumN_12] at h2
  rw [aheadN_succ]
  unfold numN
  omega
theorem numN_bd (y m d : Int) (h : mayB y m d = true) : 0 ≤ numN y m d ∧ numN y m d ≤ 2932896 := by
  have h1 := numN_in y m d h
  rw [mayB_iff] at h
  have h2 := aheadN_le 1970 y (by omega)
  have h3 := aheadN_le (y + 1) 10000 (by omega)
  have h4 := aheadN_start
  have h5 := aheadN_end
  omega
theorem isD_one {n y m d y' m' d' : Int} (h : IsD n y m d) (h' : IsD n y' m' d') : y = y' ∧ m = m' ∧ d = d' := by
  obtain ⟨hm, hn⟩ := h
  obtain ⟨hm', hn'⟩ := h'
  have a := numN_in y m d hm
  have a' := numN_in y' m' d' hm'
  have hy : y = y' := by
    rcases Int.lt_trichotomy y y' with h | h | h
    · have := aheadN_le (y + 1) y' (by omega); omega
    · exact h
    · have := aheadN_le (y' + 1) y (by omega); omega
  subst hy
  rw [mayB_iff] at hm hm'
  have hmm : m = m' := by
    rcases Int.lt_trichotomy m m' with h | h | h
    · have := cumN_le y (m.toNat - 1) (m'.toNat - 1) (by omega)
      rw [show ((m.toNat - 1 : Nat) : Int) + 1 = m by omega] at this
      unfold numN at hn hn'; omega
    · exact h
    · have := cumN_le y (m'.toNat - 1) (m.toNat - 1) (by omega)
      rw [show ((m'.toNat - 1 : Nat) : Int) + 1 = m' by omega] at this
      unfold numN at hn hn'; omega
  subst hmm
  refine ⟨rfl, rfl, ?_⟩
  unfold numN at hn hn'; omega
def wdN (n : Int) : Int := if n < 0 ∨ 2932896 < n then 0 else (n + 3) % 7 + 1
end Go.Proofs.YtgeocjodkkkiiaaDoor
