/- Which blocks may be, by their points; the examples of ModelNames. -/
import Derived.Test.YtnnknnaimabehaaDoorModOf
import Derived.Test.YtnnknnaimabehaaDoorModBackQ
import Derived.Test.YtnnknnaimabehaaDoorModAlive
namespace Go.Proofs.YtnnknnaimabehaaDoor
open Go.RowKit
set_option linter.unusedVariables false
set_option maxRecDepth 100000
theorem seqW_some (ps : List PtP) (vs : List ValP) : ∀ k, k ≤ ps.length → k ≤ vs.length → ((seqW ps vs k).isSome = true ↔ ∀ (j : Nat) (p : PtP) (v : ValP), j < k → ps[j]? = some p → vs[j]? = some v → (ptWords p v).isSome = true) := by
  intro k
  induction k with
  | zero => intro _ _; exact ⟨fun _ j p v h => by omega, fun _ => rfl⟩
  | succ k ih =>
    intro h1 h2
    have ih := ih (by omega) (by omega)
    have hp : ps[k]? = some ps[k] := List.getElem?_eq_getElem (by omega)
    have hv : vs[k]? = some vs[k] := List.getElem?_eq_getElem (by omega)
    cases hs : seqW ps vs k with
    | none =>
      rw [hs] at ih
      have e : seqW ps vs (k + 1) = none := by simp [seqW, hs]
      rw [e]
      constructor
      · intro h; cases h
      · intro h
        have := ih.2 (fun j p v hj => h j p v (by omega))
        cases this
    | some L =>
      rw [hs] at ih
      rw [seqW_next ps vs k L _ _ hs hp hv, Option.isSome_map]
      constructor
      · intro h j p v hj hjp hjv
        rcases Nat.lt_or_ge j k with hjk | hjk
        · exact ih.1 rfl j p v hjk hjp hjv
        · obtain rfl : j = k := by omega
          rw [hp] at hjp
          rw [hv] at hjv
          injection hjp with hjp
          injection hjv with hjv
          rw [← hjp, ← hjv]; exact h
      · intro h; exact h k _ _ (by omega) hp hv
theorem text_some (m : Int) (s : ByteArray) : (ptWords ⟨3, m⟩ ⟨0, 0, s⟩).isSome = true ↔ txtOk s m := by
  unfold ptWords
  rw [if_pos rfl]
  unfold textP
  by_cases h : txtOk s m
  · rw [if_pos ⟨⟨rfl, rfl⟩, h⟩]; exact ⟨fun _ => h, fun _ => rfl⟩
  · rw [if_neg (fun q => h q.2)]; exact ⟨fun q => absurd q (by simp), fun q => absurd q h⟩
theorem plain_some (m u : Int) : (ptWords ⟨1, m⟩ ⟨u, 0, empS⟩).isSome = wordsB u m 1 := by
  unfold ptWords
  rw [if_neg (show ¬ (1 : Int) = 3 by decide), if_neg (show ¬ (1 : Int) = 2 by decide)]
  unfold plainP someW
  rw [decide_eq_true (⟨rfl, rfl⟩ : (0 : Int) = 0 ∧ empS = empS), Bool.true_and]
  cases wordsB u m 1 <;> rfl
theorem signed_some (m i : Int) : (ptWords ⟨2, m⟩ ⟨0, i, empS⟩).isSome = unsB i m := by
  unfold ptWords
  rw [if_neg (show ¬ (2 : Int) = 3 by decide), if_pos rfl]
  unfold signedP someW
  rw [decide_eq_true (⟨rfl, rfl⟩ : (0 : Int) = 0 ∧ empS = empS), Bool.and_true]
  cases unsB i m <;> rfl
theorem low_fits (n : Int) : wordsB (IntKind.u32.wrap n) 2 1 = true := by
  have h : IntKind.u32.wrap n < 4294967296 := by simp only [IntKind.wrap_u32]; omega
  unfold wordsB fitsB knownB
  simp [h]
theorem first_some (b : Bk) (s0 s1 s2 : ByteArray) : (blkW 1 P5 (firstV b s0 s1 s2)).isSome = true ↔ txtOk s0 8 ∧ txtOk s1 8 ∧ txtOk s2 8 := by
  unfold blkW
  rw [if_pos ⟨by decide, rfl⟩, seqW_some P5 (firstV b s0 s1 s2) P5.length (Nat.le_refl _) (Nat.le_refl _)]
  constructor
  · intro h
    exact ⟨(text_some 8 s0).1 (h 0 _ _ (by decide) rfl rfl), (text_some 8 s1).1 (h 1 _ _ (by decide) rfl rfl), (text_some 8 s2).1 (h 2 _ _ (by decide) rfl rfl)⟩
  · rintro ⟨h0, h1, h2⟩ j p v hj hp hv
    have hj5 : j = 0 ∨ j = 1 ∨ j = 2 ∨ j = 3 ∨ j = 4 := by have : P5.length = 5 := rfl; omega
    rcases hj5 with rfl | rfl | rfl | rfl | rfl <;> (injection hp with hp; injection hv with hv; subst hp hv)
    · exact (text_some 8 s0).2 h0
    · exact (text_some 8 s1).2 h1
    · exact (text_some 8 s2).2 h2
    · exact (plain_some 2 _).trans (low_fits _)
    · exact (plain_some 2 _).trans (low_fits _)
def sA : ByteArray := ⟨#[97]⟩
def sB : ByteArray := ⟨#[98]⟩
def sC : ByteArray := ⟨#[99]⟩
def s17 : ByteArray := ⟨#[115, 101, 118, 101, 110, 116, 101, 101, 110, 32, 98, 121, 116, 101, 115, 33, 33]⟩
theorem one_ok (c : UInt8) (h : c ≠ 0) : txtOk ⟨#[c]⟩ 8 := by
  refine ⟨by decide, by decide, by show (1 : Int) ≤ _; omega, fun i hi => ?_⟩
  obtain rfl : i = 0 := by have : (⟨#[c]⟩ : ByteArray).size = 1 := rfl; omega
  show (c.toNat : Int) ≠ 0
  intro e
  exact h (UInt8.toNat_inj.1 (by simpa using e))
theorem ex_of : ofB Bk.zero sA sB sC [63] := by
  refine ⟨by decide, (first_some _ _ _ _).2 ⟨one_ok 97 (by decide), one_ok 98 (by decide), one_ok 99 (by decide)⟩, fun m hm => ?_⟩
  have : m = 63 := by simpa using hm
  omega
theorem ex_no : ¬ ofB Bk.zero s17 empS empS [] := fun h => by
  have := ((first_some _ _ _ _).1 h.2.1).1.2.2.1
  exact absurd this (by decide)
theorem ex_check : (blkW 7 [⟨1, 2⟩] [⟨0, 5, empS⟩]).isSome = false := by
  unfold blkW
  rw [if_pos ⟨by decide, rfl⟩]
  have e : ptWords ⟨1, 2⟩ ⟨0, 5, empS⟩ = none := by
    unfold ptWords
    rw [if_neg (by decide), if_neg (by decide)]
    unfold plainP someW
    rw [if_neg (by simp)]
  show (seqW _ _ 1).isSome = false
  rw [seqW_next _ _ 0 [] ⟨1, 2⟩ ⟨0, 5, empS⟩ rfl rfl rfl, e]
  rfl
theorem ex_find1 : findR [21365, 28243, 7, 2, 1, 1, 65535, 0] 7 1 = (0, 0, false) := by decide +kernel
def d7 : DefP := ⟨7, [⟨1, 2⟩]⟩
theorem ex_read0 : readP [] [21365, 28243, 7, 2, 1, 1, 65535, 0] = none := by
  unfold readP
  split
  · rename_i h
    have e : rdL [] (([21365, 28243, 7, 2, 1, 1, 65535, 0] : List Int).length + 1) (([21365, 28243, 7, 2, 1, 1, 65535, 0] : List Int).drop 2) = none := by
      show rdL [] 9 [7, 2, 1, 1, 65535, 0] = none
      unfold rdL
      rw [if_pos (by decide)]
      rfl
    rw [e]
  · rfl
theorem ex_may : mayD [d7] := by
  intro i d hd
  have hi := (List.getElem?_eq_some_iff.1 hd).1
  obtain rfl : i = 0 := by simp at hi; omega
  injection hd with hd
  subst hd
  exact ⟨by decide, fun k e hk => by omega⟩
theorem ex_read1 : readP [d7] [21365, 28243, 7, 2, 1, 1, 65535, 0] = some [sevenB] := by
  refine readP_undone [d7] ex_may [sevenB] _ (fun b hb => ?_) ex_seven
  obtain rfl : b = sevenB := by simpa using hb
  exact ⟨⟨_, ex_blk⟩, fun v hv => by obtain rfl : v = ⟨65537, 0, empS⟩ := by simpa [sevenB] using hv
                                     exact vIn _ _ _ (by decide) i0', 0, d7, rfl, rfl, rfl⟩
end Go.Proofs.YtnnknnaimabehaaDoor
