/- The blocks of a book: the plain part. -/
import Derived.Test.YtnnknnaimabehaaDoorModOf
namespace Go.Proofs.YtnnknnaimabehaaDoor
open Go.RowKit
set_option linter.unusedVariables false
set_option maxRecDepth 100000
theorem seqW_some (ps : List PtP) (vs : List ValP) : ∀ k, k ≤ ps.length → k ≤ vs.length → ((seqW ps vs k).isSome = true ↔ ∀ (j : Nat) (p : PtP) (v : ValP), j < k → ps[j]? = some p → vs[j]? = some v → (ptWords p v).isSome = true) := by
  intro k
  induction k with
  | zero => intro _ _; exact ⟨fun _ j p v h => by omega, fun _ => rfl⟩
  | succ k ih =>
    intro h1 h2
    have ih := ih (by omega) (by omega)
    have hp : ps[k]? = some ps[k] := List.getElem?_eq_getElem (by omega)
    have hv : vs[k]? = some vs[k] := List.getElem?_eq_getElem (by omega)
    cases hs : seqW ps vs k with
    | none =>
      rw [hs] at ih
      have e : seqW ps vs (k + 1) = none := by simp [seqW, hs]
      rw [e]
      constructor
      · intro h; cases h
      · intro h
        have := ih.2 (fun j p v hj => h j p v (by omega))
        cases this
    | some L =>
      rw [hs] at ih
      rw [seqW_next ps vs k L _ _ hs hp hv, Option.isSome_map]
      constructor
      · intro h j p v hj hjp hjv
        rcases Nat.lt_or_ge j k with hjk | hjk
        · exact ih.1 rfl j p v hjk hjp hjv
        · obtain rfl : j = k := by omega
          rw [hp] at hjp
          rw [hv] at hjv
          injection hjp with hjp
          injection hjv with hjv
          rw [← hjp, ← hjv]; exact h
      · intro h; exact h k _ _ (by omega) hp hv
theorem text_some (m : Int) (s : ByteArray) : (ptWords ⟨3, m⟩ ⟨0, 0, s⟩).isSome = true ↔ txtOk s m := by
  unfold ptWords
  rw [if_pos rfl]
  unfold textP
  by_cases h : txtOk s m
  · rw [if_pos ⟨⟨rfl, rfl⟩, h⟩]; exact ⟨fun _ => h, fun _ => rfl⟩
  · rw [if_neg (fun q => h q.2)]; exact ⟨fun q => absurd q (by simp), fun q => absurd q h⟩
theorem plain_some (m u : Int) : (ptWords ⟨1, m⟩ ⟨u, 0, empS⟩).isSome = wordsB u m 1 := by
  unfold ptWords
  rw [if_neg (show ¬ (1 : Int) = 3 by decide), if_neg (show ¬ (1 : Int) = 2 by decide)]
  unfold plainP someW
  rw [decide_eq_true (⟨rfl, rfl⟩ : (0 : Int) = 0 ∧ empS = empS), Bool.true_and]
  cases wordsB u m 1 <;> rfl
theorem signed_some (m i : Int) : (ptWords ⟨2, m⟩ ⟨0, i, empS⟩).isSome = unsB i m := by
  unfold ptWords
  rw [if_neg (show ¬ (2 : Int) = 3 by decide), if_pos rfl]
  unfold signedP someW
  rw [decide_eq_true (⟨rfl, rfl⟩ : (0 : Int) = 0 ∧ empS = empS), Bool.and_true]
  cases unsB i m <;> rfl
theorem low_fits (n : Int) : wordsB (IntKind.u32.wrap n) 2 1 = true := by
  have h : IntKind.u32.wrap n < 4294967296 := by simp only [IntKind.wrap_u32]; omega
  unfold wordsB fitsB knownB
  simp [h]
theorem first_some (b : Bk) (s0 s1 s2 : ByteArray) : (blkW 1 P5 (firstV b s0 s1 s2)).isSome = true ↔ txtOk s0 8 ∧ txtOk s1 8 ∧ txtOk s2 8 := by
  unfold blkW
  rw [if_pos ⟨by decide, rfl⟩, seqW_some P5 (firstV b s0 s1 s2) P5.length (Nat.le_refl _) (Nat.le_refl _)]
  constructor
  · intro h
    exact ⟨(text_some 8 s0).1 (h 0 _ _ (by decide) rfl rfl), (text_some 8 s1).1 (h 1 _ _ (by decide) rfl rfl), (text_some 8 s2).1 (h 2 _ _ (by decide) rfl rfl)⟩
  · rintro ⟨h0, h1, h2⟩ j p v hj hp hv
    have hj5 : j = 0 ∨ j = 1 ∨ j = 2 ∨ j = 3 ∨ j = 4 := by have : P5.length = 5 := rfl; omega
    rcases hj5 with rfl | rfl | rfl | rfl | rfl <;> (injection hp with hp; injection hv with hv; subst hp hv)
    · exact (text_some 8 s0).2 h0
    · exact (text_some 8 s1).2 h1
    · exact (text_some 8 s2).2 h2
    · exact (plain_some 2 _).trans (low_fits _)
    · exact (plain_some 2 _).trans (low_fits _)
theorem meterV_len (b : Bk) (m : Nat) : (meterV b m).length = 17 := by
  unfold meterV meterH bandsV
  simp
theorem head_at (b : Bk) (m k : Nat) (h : k < 9) : (meterV b m)[k]? = (meterH m (b.sumAt m))[k]? := by
  unfold meterV
  rw [List.getElem?_append_left (by simpa [meterH] using h)]
theorem band_at (b : Bk) (m k : Nat) (h : k < 8) : (meterV b m)[9 + k]? = some ⟨0, (b.totAt m k).energy, empS⟩ := by
  unfold meterV
  rw [List.getElem?_append_right (by simp [meterH])]
  have e : 9 + k - (meterH m (b.sumAt m)).length = k := by simp [meterH]
  rw [e]
  unfold bandsV
  rw [List.getElem?_map, List.getElem?_range h]
  rfl
end Go.Proofs.YtnnknnaimabehaaDoor
