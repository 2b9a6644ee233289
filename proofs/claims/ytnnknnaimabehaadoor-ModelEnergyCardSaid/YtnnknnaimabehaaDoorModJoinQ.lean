/- Images of two lists of blocks and of both, in plain Lean. -/
import Derived.Test.YtnnknnaimabehaaDoorModFindP
namespace Go.Proofs.YtnnknnaimabehaaDoor
open Go.RowKit
set_option linter.unusedVariables false
theorem join_none (a b : List BlkP) (h : imageP a = none ∨ imageP b = none) : imageP (a ++ b) = none := by
  rw [imageP_parts, imageP_parts] at h
  rw [imageP_parts, partsP_append]
  cases ha : partsP a with
  | none => rfl
  | some x =>
    cases hb : partsP b with
    | none => rfl
    | some y =>
      rw [ha, hb] at h
      dsimp only at h ⊢
      rw [if_neg]
      rw [List.length_append]
      rcases h with h | h
      · split at h
        · cases h
        · omega
      · split at h
        · cases h
        · omega
theorem join_long (a b : List BlkP) (X Y : List Int) (ha : imageP a = some X) (hb : imageP b = some Y) (h : 9000 < X.length + Y.length - 4) : imageP (a ++ b) = none := by
  obtain ⟨x, hx, rfl, h1⟩ := image_some a X ha
  obtain ⟨y, hy, rfl, h2⟩ := image_some b Y hb
  rw [imageP_parts, partsP_append, hx, hy]
  simp at h
  dsimp only
  rw [if_neg (by rw [List.length_append]; omega)]
theorem join_some (a b : List BlkP) (X Y : List Int) (ha : imageP a = some X) (hb : imageP b = some Y) (h : X.length + Y.length - 4 ≤ 9000) : ∃ Z, imageP (a ++ b) = some Z ∧ Z.length = X.length + Y.length - 4 ∧ 4 ≤ X.length ∧ 4 ≤ Y.length ∧ (∀ i, i < X.length - 2 → Z[i]? = X[i]?) ∧ ∀ i, 2 ≤ i → i < Y.length → Z[X.length - 4 + i]? = Y[i]? := by
  obtain ⟨x, hx, rfl, h1⟩ := image_some a X ha
  obtain ⟨y, hy, rfl, h2⟩ := image_some b Y hb
  simp at h
  refine ⟨[21365, 28243] ++ (x ++ y) ++ [65535, 0], ?_, by simp; omega, by simp, by simp, ?_, ?_⟩
  · rw [imageP_parts, partsP_append, hx, hy]
    dsimp only
    rw [if_pos (by rw [List.length_append]; omega)]
  · intro i hi
    have hx2 : i < (([21365, 28243] : List Int) ++ x).length := by simp at hi ⊢; omega
    rw [show ([21365, 28243] : List Int) ++ (x ++ y) ++ [65535, 0] = ([21365, 28243] ++ x) ++ (y ++ [65535, 0]) by simp]
    exact (List.getElem?_append_left hx2).trans (List.getElem?_append_left hx2).symm
  · intro i hi1 hi2
    obtain ⟨j, rfl⟩ : ∃ j, i = 2 + j := ⟨i - 2, by omega⟩
    have e : ([21365, 28243] ++ x ++ [65535, 0] : List Int).length - 4 + (2 + j) = (([21365, 28243] : List Int) ++ x).length + j := by simp; omega
    rw [e, show ([21365, 28243] : List Int) ++ (x ++ y) ++ [65535, 0] = ([21365, 28243] ++ x) ++ (y ++ [65535, 0]) by simp, show ([21365, 28243] : List Int) ++ y ++ [65535, 0] = [21365, 28243] ++ (y ++ [65535, 0]) by simp]
    refine (List.getElem?_append_right (Nat.le_add_right _ _)).trans (Eq.trans ?_ (List.getElem?_append_right (by simp)).symm)
    simp
end Go.Proofs.YtnnknnaimabehaaDoor
