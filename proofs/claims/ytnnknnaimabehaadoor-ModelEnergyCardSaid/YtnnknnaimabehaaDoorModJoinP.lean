/- Images of blocks behind others, in plain Lean. -/
import Derived.Test.YtnnknnaimabehaaDoorModImg2
namespace Go.Proofs.YtnnknnaimabehaaDoor
open Go.RowKit
set_option linter.unusedVariables false
/-- A block's registers in an image. -/
noncomputable def partB (b : BlkP) : Option (List Int) := (blkB b).map fun m => [b.id, (m.length : Int)] ++ m
/-- The parts of blocks, one behind the other. -/
noncomputable def partsP : List BlkP → Option (List Int)
  | [] => some []
  | b :: r => match partB b, partsP r with
    | some x, some y => some (x ++ y)
    | _, _ => none
theorem partsP_append (a b : List BlkP) : partsP (a ++ b) = match partsP a, partsP b with
    | some x, some y => some (x ++ y)
    | _, _ => none := by
  induction a with
  | nil => cases h : partsP b <;> simp [partsP, h]
  | cons c r ih =>
    simp only [List.cons_append, partsP, ih]
    cases partB c <;> cases partsP r <;> cases partsP b <;> simp
theorem imgTo_parts (bs : List BlkP) (k : Nat) (hk : k ≤ bs.length) : imgTo bs k = (partsP (bs.take k)).map fun x => [21365, 28243] ++ x := by
  induction k with
  | zero => simp [imgTo, partsP]
  | succ k ih =>
    obtain ⟨b, hb⟩ : ∃ b, bs[k]? = some b := ⟨_, List.getElem?_eq_getElem (by omega)⟩
    have ih := ih (by omega)
    obtain ⟨hj, hbe⟩ := List.getElem?_eq_some_iff.1 hb
    have ht : bs.take (k + 1) = bs.take k ++ [b] := by rw [List.take_succ_eq_append_getElem hj, hbe]
    rw [ht, partsP_append]
    have h1 : partsP [b] = partB b := by cases h : partB b <;> simp [partsP, h]
    rw [h1]
    cases hp : partsP (bs.take k) with
    | none =>
      rw [hp] at ih
      have : imgTo bs (k + 1) = none := imgTo_stop bs k ih 1
      rw [this]
      rfl
    | some x =>
      rw [hp] at ih
      rw [imgTo_next bs k _ b ih hb]
      unfold partB
      cases blkB b <;> simp
theorem imageP_parts (bs : List BlkP) : imageP bs = match partsP bs with
    | some x => if x.length + 4 ≤ 9000 then some ([21365, 28243] ++ x ++ [65535, 0]) else none
    | none => none := by
  unfold imageP
  rw [imgTo_parts bs bs.length (Nat.le_refl _), List.take_length]
  cases h : partsP bs with
  | none => rfl
  | some x =>
    simp only [Option.map_some]
    have e : (([21365, 28243] : List Int) ++ x).length + 2 = x.length + 4 := by simp
    rw [e]
end Go.Proofs.YtnnknnaimabehaaDoor
