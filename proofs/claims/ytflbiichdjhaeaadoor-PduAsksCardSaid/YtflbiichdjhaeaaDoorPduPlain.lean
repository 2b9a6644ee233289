/- Bits in bytes, in plain Lean. No program in sight. -/
import Derived.Test.YtflbiichdjhaeaaDoorMemB
namespace Go.Proofs.YtflbiichdjhaeaaDoor
open Go.RowKit

/-- The number that bits say, the first one lowest. -/
def bsum : List Bool → Int
  | [] => 0
  | b :: t => (if b then 1 else 0) + 2 * bsum t
theorem bsum_append (u : List Bool) (b : Bool) : bsum (u ++ [b]) = bsum u + if b then (2 : Int) ^ u.length else 0 := by
  induction u with
  | nil => cases b <;> simp [bsum]
  | cons a t ih =>
    simp only [List.cons_append, bsum, ih, List.length_cons, Int.pow_succ]
    cases a <;> cases b <;> simp <;> omega
theorem bsum_range (u : List Bool) : 0 ≤ bsum u ∧ bsum u < (2 : Int) ^ u.length := by
  induction u with
  | nil => simp [bsum]
  | cons a t ih =>
    simp only [bsum, List.length_cons, Int.pow_succ]
    cases a <;> simp <;> omega
/-- A byte of bits. -/
def byteOf (l : List Bool) (j : Nat) : Int := bsum ((l.drop (8 * j)).take 8)
def packN (l : List Bool) : List Int := (List.range ((l.length + 7) / 8)).map (byteOf l)
/-- The same, with a byte more where the bits end with one. -/
def packM (l : List Bool) : List Int := (List.range (l.length / 8 + 1)).map (byteOf l)
theorem packN_len (l : List Bool) : (packN l).length = (l.length + 7) / 8 := by simp [packN]
theorem packM_len (l : List Bool) : (packM l).length = l.length / 8 + 1 := by simp [packM]
theorem packM_new (l : List Bool) (h : l.length % 8 = 0) : packN l ++ [0] = packM l := by
  have e : (l.length + 7) / 8 = l.length / 8 := by omega
  unfold packN packM
  rw [e, List.range_succ, List.map_append]
  have : byteOf l (l.length / 8) = 0 := by
    unfold byteOf
    rw [List.drop_eq_nil_of_le (by omega)]
    rfl
  simp [this]
theorem packM_old (l : List Bool) (h : l.length % 8 ≠ 0) : packN l = packM l := by
  have e : (l.length + 7) / 8 = l.length / 8 + 1 := by omega
  unfold packN packM
  rw [e]
theorem byteOf_small (l : List Bool) (j : Nat) : 0 ≤ byteOf l j ∧ byteOf l j < 256 := by
  have h := bsum_range ((l.drop (8 * j)).take 8)
  have hl : ((l.drop (8 * j)).take 8).length ≤ 8 := by simp; omega
  have : (2 : Int) ^ ((l.drop (8 * j)).take 8).length ≤ 2 ^ 8 := by exact_mod_cast Nat.pow_le_pow_right (by omega : 0 < 2) hl
  unfold byteOf
  omega
theorem byteOf_last (l : List Bool) : byteOf l (l.length / 8) < (2 : Int) ^ (l.length % 8) := by
  have h := bsum_range ((l.drop (8 * (l.length / 8))).take 8)
  have hl : ((l.drop (8 * (l.length / 8))).take 8).length = l.length % 8 := by simp; omega
  rw [hl] at h
  exact h.2
theorem packN_snoc (l : List Bool) (b : Bool) : packN (l ++ [b]) = (packM l).set (l.length / 8) (byteOf l (l.length / 8) + if b then (2 : Int) ^ (l.length % 8) else 0) := by
  apply List.ext_getElem
  · simp [packN_len, packM_len]; omega
  · intro j h1 h2
    simp only [packN_len, List.length_append, List.length_singleton] at h1
    rw [List.getElem_set]
    split
    · rename_i e
      subst e
      simp only [packN, List.getElem_map, List.getElem_range, byteOf]
      rw [List.drop_append_of_le_length (by omega), List.take_of_length_le (by simp; omega), List.take_of_length_le (by simp; omega), bsum_append]
      have : (l.drop (8 * (l.length / 8))).length = l.length % 8 := by simp; omega
      rw [this]
    · rename_i e
      simp only [packN, packM, List.getElem_map, List.getElem_range, byteOf]
      rw [List.drop_append_of_le_length (by omega), List.take_append_of_le_length (by simp; omega)]
theorem packN_false (l : List Bool) : packN (l ++ [false]) = packM l := by
  rw [packN_snoc]
  simp only [Bool.false_eq_true, if_false, Int.add_zero]
  apply List.ext_getElem
  · simp
  · intro j h1 h2
    rw [List.getElem_set]
    split
    · rename_i e
      subst e
      simp [packM]
    · rfl
theorem packM_at (l : List Bool) : (packM l)[l.length / 8]? = some (byteOf l (l.length / 8)) := by
  unfold packM
  simp
/-- A bit of bytes. -/
def bitAt (b : List Int) (n : Nat) : Bool := decide ((b.getD (n / 8) 0) / (2 : Int) ^ (n % 8) % 2 = 1)
theorem bitAt_out (b : List Int) (n : Nat) (h : b.length ≤ n / 8) : bitAt b n = false := by
  unfold bitAt
  rw [List.getD, List.getElem?_eq_none h]
  simp
theorem bitAt_in (b : List Int) (n : Nat) (x : Int) (h : b[n / 8]? = some x) : bitAt b n = decide (x / (2 : Int) ^ (n % 8) % 2 = 1) := by
  unfold bitAt
  rw [List.getD, h]
  rfl
end Go.Proofs.YtflbiichdjhaeaaDoor
