/- The reply that bytes may be: what the program tries, and what the document tries, come to one. Plain Lean. No program in sight. -/
import Derived.Test.YtflbiichdjhaeaaDoorPduParse
namespace Go.Proofs.YtflbiichdjhaeaaDoor
open Go.RowKit

/-- What the program tries; q: the function's number with the eighth bit; u: the bits. -/
def ownR (q : Int) (u : List Bool) (a : AskP) (b : List Int) : RepP :=
  if b.getD 0 0 = q then ⟨a.fn, b.getD 1 0, [], []⟩
  else if a.fn ≤ 2 then ⟨a.fn, 0, u, []⟩
  else if a.fn ≤ 4 ∨ a.fn = 23 then ⟨a.fn, 0, [], if b.length % 2 = 0 then wordsP (b.drop 2) else []⟩
  else ⟨a.fn, 0, [], []⟩
/-- What the document tries. -/
def refR (a : AskP) (b : List Int) : RepP :=
  if 128 ≤ b.getD 0 0 then ⟨a.fn, b.getD 1 0, [], []⟩
  else ⟨a.fn, 0, if a.fn < 3 then unpackP (b.drop 2) a.count.toNat else [], if a.fn = 3 ∨ a.fn = 4 ∨ a.fn = 23 then wordsP (b.drop 2) else []⟩
theorem ownR_guess (q : Int) (u : List Bool) (a : AskP) (b : List Int) (hq : q = a.fn + 128) (hu : u = unpackP (b.drop 2) a.count.toNat) : ownR q u a b = guessR a b := by
  subst hq hu
  rfl
theorem answer_no (a : AskP) (r : RepP) (h : mayP a = false) : answerP a r = none := by unfold answerP; rw [if_pos (.inl h)]
theorem readAnswer_no (a : AskP) (b : List Int) (h : mayP a = false) : readAnswerP a b = none := by
  unfold readAnswerP
  split
  · rfl
  · rw [answer_no a _ h]; rfl
/-- The head of a reply's bytes tells whether it is an exception. -/
theorem answer_head (a : AskP) (r : RepP) (x : List Int) (h : answerP a r = some x) : (r.code = 0 → x.getD 0 0 = a.fn ∧ a.fn < 128) ∧ (r.code ≠ 0 → x.getD 0 0 = a.fn + 128) ∧ (r.code = 0 → (a.fn = 3 ∨ a.fn = 4 ∨ a.fn = 23) → x.length % 2 = 0) := by
  unfold answerP at h
  by_cases e0 : mayP a = false ∨ r.fn ≠ a.fn
  · rw [if_pos e0] at h; cases h
  rw [if_neg e0] at h
  have hm : mayP a = true := by
    cases hh : mayP a
    · exact absurd (.inl hh) e0
    · rfl
  have hrb := read_bytes a hm
  by_cases e1 : r.code ≠ 0
  · rw [if_pos e1] at h
    split at h
    · cases h
    · injection h with h
      subst h
      exact ⟨fun h => absurd h e1, fun _ => rfl, fun h => absurd h e1⟩
  rw [if_neg e1] at h
  split at h
  · cases h
  have e1' : r.code = 0 := by omega
  split at h
  · injection h with h
    subst h
    exact ⟨fun _ => ⟨rfl, by omega⟩, fun h => absurd e1' h, fun _ _ => by omega⟩
  split at h
  · injection h with h
    subst h
    exact ⟨fun _ => ⟨hrb.2.2.2.1, by omega⟩, fun h => absurd e1' h, fun _ _ => by omega⟩
  split at h
  · injection h with h
    subst h
    exact ⟨fun _ => ⟨rfl, by omega⟩, fun h => absurd e1' h, fun _ _ => by omega⟩
  injection h with h
  subst h
  refine ⟨fun _ => ⟨rfl, by omega⟩, fun h => absurd e1' h, fun _ _ => ?_⟩
  simp only [List.length_cons, twosI_len]
  omega
theorem refR_guess (a : AskP) (b : List Int) (hm : mayP a = true) (hl : 2 ≤ b.length) : (if answerP a (refR a b) = some b then some (refR a b) else none) = readAnswerP a b := by
  have f23 := (read_bytes a hm).2.2.2.2
  unfold readAnswerP
  rw [if_neg (show ¬ b.length < 2 by omega)]
  by_cases h0 : 128 ≤ b.getD 0 0
  · by_cases h1 : b.getD 0 0 = a.fn + 128
    · have e : refR a b = guessR a b := by
        unfold refR guessR
        rw [if_pos h0, if_pos h1]
      rw [e]
    · have n1 : answerP a (refR a b) ≠ some b := by
        intro h
        obtain ⟨k1, k2, _⟩ := answer_head a _ b h
        by_cases hc : (refR a b).code = 0
        · have := k1 hc; omega
        · exact h1 (k2 hc)
      have n2 : answerP a (guessR a b) ≠ some b := by
        intro h
        obtain ⟨k1, k2, _⟩ := answer_head a _ b h
        by_cases hc : (guessR a b).code = 0
        · have := k1 hc; omega
        · exact h1 (k2 hc)
      rw [if_neg n1, if_neg n2]
  · have h1 : ¬ b.getD 0 0 = a.fn + 128 := by omega
    by_cases ho : b.length % 2 = 0 ∨ ¬ (a.fn = 3 ∨ a.fn = 4 ∨ a.fn = 23)
    · have e : refR a b = guessR a b := by
        unfold refR guessR
        rw [if_neg h0, if_neg h1]
        by_cases c1 : a.fn ≤ 2
        · rw [if_pos c1, if_pos (by omega), if_neg (by omega)]
        · rw [if_neg c1, if_neg (by omega)]
          by_cases c2 : a.fn ≤ 4 ∨ a.fn = 23
          · rw [if_pos c2, if_pos (by omega), if_pos (by omega)]
          · rw [if_neg c2, if_neg (by omega)]
      rw [e]
    · have hodd : b.length % 2 ≠ 0 := fun h => ho (.inl h)
      have hfn : a.fn = 3 ∨ a.fn = 4 ∨ a.fn = 23 := Decidable.byContradiction fun h => ho (.inr h)
      have no (r : RepP) (hc : r.code = 0) : answerP a r ≠ some b := by
        intro h
        exact hodd ((answer_head a r b h).2.2 hc hfn)
      have c1 : (refR a b).code = 0 := by unfold refR; rw [if_neg h0]
      have c2 : (guessR a b).code = 0 := by
        unfold guessR
        rw [if_neg h1]
        split
        · rfl
        · split <;> rfl
      rw [if_neg (no _ c1), if_neg (no _ c2)]
theorem wordsP_reg {l : List Int} (hl : Byte8 l) : Reg16 (wordsP l) := by
  intro x hx
  unfold wordsP at hx
  obtain ⟨k, hk, rfl⟩ := List.mem_map.1 hx
  rw [List.mem_range] at hk
  have a1 := hl _ (List.getElem_mem (show 2 * k < l.length by omega))
  have a2 := hl _ (List.getElem_mem (show 2 * k + 1 < l.length by omega))
  have b1 : l.getD (2 * k) 0 = l[2 * k]'(by omega) := by simp [List.getD, show 2 * k < l.length by omega]
  have b2 : l.getD (2 * k + 1) 0 = l[2 * k + 1]'(by omega) := by simp [List.getD, show 2 * k + 1 < l.length by omega]
  unfold wordP
  rw [b1, b2]
  omega
end Go.Proofs.YtflbiichdjhaeaaDoor
