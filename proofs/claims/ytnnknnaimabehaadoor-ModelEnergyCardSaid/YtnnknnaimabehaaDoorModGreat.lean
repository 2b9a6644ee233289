/- kilowattref26.Great: are blocks more than statements go through? -/
import Derived.Test.YtnnknnaimabehaaDoorModJoinP
namespace Go.Proofs.YtnnknnaimabehaaDoor
open Go.RowKit
set_option linter.unusedVariables false
set_option maxRecDepth 100000
def strN (vs : List ValP) : Nat := (vs.map fun v => v.s.size).sum
def partN (b : BlkP) : Nat := 2 + b.pts.length + b.vals.length + strN b.vals
def partsN (bs : List BlkP) : Nat := (bs.map partN).sum
theorem strN_next (vs : List ValP) (j : Nat) (v : ValP) (h : vs[j]? = some v) : strN (vs.take (j + 1)) = strN (vs.take j) + v.s.size := by
  obtain ⟨hj, rfl⟩ := List.getElem?_eq_some_iff.1 h
  rw [List.take_succ_eq_append_getElem hj]
  simp only [strN, List.map_append, List.sum_append, List.map_cons, List.map_nil, List.sum_cons, List.sum_nil, Nat.add_zero]
theorem partsN_next (bs : List BlkP) (j : Nat) (b : BlkP) (h : bs[j]? = some b) : partsN (bs.take (j + 1)) = partsN (bs.take j) + partN b := by
  obtain ⟨hj, rfl⟩ := List.getElem?_eq_some_iff.1 h
  rw [List.take_succ_eq_append_getElem hj]
  simp only [partsN, List.map_append, List.sum_append, List.map_cons, List.map_nil, List.sum_cons, List.sum_nil, Nat.add_zero]
theorem strN_take (vs : List ValP) (j : Nat) : strN (vs.take j) ≤ strN vs := by
  conv => rhs; rw [← List.take_append_drop j vs]
  simp only [strN, List.map_append, List.sum_append]
  omega
theorem partsN_take (bs : List BlkP) (j : Nat) : partsN (bs.take j) ≤ partsN bs := by
  conv => rhs; rw [← List.take_append_drop j bs]
  simp only [partsN, List.map_append, List.sum_append]
  omega
theorem partsN_len (bs : List BlkP) : 2 * bs.length ≤ partsN bs := by
  induction bs with
  | nil => simp
  | cons b r ih =>
    have h : partsN (b :: r) = partN b + partsN r := by simp only [partsN, List.map_cons, List.sum_cons]
    have h2 : 2 ≤ partN b := by unfold partN; omega
    rw [h, List.length_cons]
    omega
end Go.Proofs.YtnnknnaimabehaaDoor
