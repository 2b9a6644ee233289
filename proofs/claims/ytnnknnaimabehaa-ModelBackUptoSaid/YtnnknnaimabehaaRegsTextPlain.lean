/- Plain words of texts in registers. -/
import Derived.ProofKit
import Derived.Lib.Bytealg
namespace Go.Proofs.Ytnnknnaimabehaa
/-- A byte of a string, as a number; behind its end: 0. -/
def chr (s : ByteArray) (i : Nat) : Int := (s.data.toList.getD i 0).toNat
theorem chr_in (s : ByteArray) (i : Nat) : 0 ≤ chr s i ∧ chr s i < 256 := by
  unfold chr
  have := (s.data.toList.getD i 0).toNat_lt
  omega
theorem chr_out (s : ByteArray) (i : Nat) (h : s.size ≤ i) : chr s i = 0 := by
  unfold chr
  rw [List.getD, List.getElem?_eq_none (by rw [Array.length_toList]; exact h)]
  rfl
/-- Registers behind the first i bytes. -/
def txtAt (s : ByteArray) (i k : Nat) : Int := if 2 * k + 1 < i then chr s (2 * k) * 256 + chr s (2 * k + 1) else if 2 * k < i then chr s (2 * k) * 256 else 0
def txtL (s : ByteArray) (many i : Nat) : List Int := (List.range many).map (txtAt s i)
theorem txtL_len (s : ByteArray) (many i : Nat) : (txtL s many i).length = many := by simp [txtL]
theorem txtL_get (s : ByteArray) (many i k : Nat) (h : k < many) : (txtL s many i)[k]? = some (txtAt s i k) := by simp [txtL, h]
/-- What a byte adds to its register. -/
def addC (s : ByteArray) (i : Nat) : Int := if i % 2 = 0 then chr s i * 256 else chr s i
theorem txtAt_step (s : ByteArray) (i : Nat) : txtAt s i (i / 2) + addC s i = txtAt s (i + 1) (i / 2) := by
  unfold txtAt addC
  rcases Nat.mod_two_eq_zero_or_one i with h | h
  · have e : 2 * (i / 2) = i := by omega
    rw [e, if_neg (by omega), if_neg (by omega), if_pos h, if_neg (by omega), if_pos (by omega)]
    omega
  · have e : 2 * (i / 2) + 1 = i := by omega
    rw [if_neg (by omega), if_pos (by omega), if_neg (by omega), if_pos (by omega), e]
theorem txtL_step (s : ByteArray) (many i : Nat) : (txtL s many i).set (i / 2) (txtAt s i (i / 2) + addC s i) = txtL s many (i + 1) := by
  apply List.ext_getElem?
  intro k
  rw [List.getElem?_set]
  by_cases hk : i / 2 = k
  · rw [if_pos hk]
    subst hk
    by_cases h : i / 2 < many
    · rw [txtL_len, if_pos h, txtL_get _ _ _ _ h, txtAt_step]
    · rw [txtL_len, if_neg h, List.getElem?_eq_none (by rw [txtL_len]; omega)]
  · rw [if_neg hk]
    by_cases h : k < many
    · rw [txtL_get _ _ _ _ h, txtL_get _ _ _ _ h]
      congr 1
      unfold txtAt
      by_cases h1 : 2 * k + 1 < i
      · rw [if_pos h1, if_pos (by omega)]
      · by_cases h2 : 2 * k < i
        · omega
        · rw [if_neg h1, if_neg h2, if_neg (by omega), if_neg (by omega)]
    · rw [List.getElem?_eq_none (by rw [txtL_len]; omega), List.getElem?_eq_none (by rw [txtL_len]; omega)]
theorem txtL_zero (s : ByteArray) (many : Nat) : txtL s many 0 = List.replicate many 0 := by
  apply List.ext_getElem?
  intro k
  by_cases h : k < many
  · rw [txtL_get _ _ _ _ h, List.getElem?_replicate, if_pos h]; rfl
  · rw [List.getElem?_eq_none (by rw [txtL_len]; omega), List.getElem?_eq_none (by simp; omega)]
theorem txtAt_in (s : ByteArray) (i k : Nat) : 0 ≤ txtAt s i k ∧ txtAt s i k < 65536 := by
  have h1 := chr_in s (2 * k)
  have h2 := chr_in s (2 * k + 1)
  unfold txtAt; split
  · omega
  · split <;> omega
theorem addC_fits (s : ByteArray) (i : Nat) : 0 ≤ txtAt s i (i / 2) + addC s i ∧ txtAt s i (i / 2) + addC s i < 65536 := by
  rw [txtAt_step]; exact txtAt_in _ _ _
/-- All the bytes there are: two a register. -/
theorem txtL_full (s : ByteArray) (many : Nat) : txtL s many s.size = (List.range many).map fun k => chr s (2 * k) * 256 + chr s (2 * k + 1) := by
  unfold txtL
  refine List.map_congr_left fun k _ => ?_
  unfold txtAt
  by_cases h1 : 2 * k + 1 < s.size
  · rw [if_pos h1]
  · rw [if_neg h1, chr_out s (2 * k + 1) (by omega)]
    by_cases h2 : 2 * k < s.size
    · rw [if_pos h2]; omega
    · rw [if_neg h2, chr_out s (2 * k) (by omega)]; omega
def noZero (s : ByteArray) : Prop := ∀ i, i < s.size → chr s i ≠ 0
def txtOk (s : ByteArray) (many : Int) : Prop := 0 ≤ many ∧ many ≤ 125 ∧ (s.size : Int) ≤ 2 * many ∧ noZero s
theorem index_mem (l : List UInt8) (c : UInt8) : 0 ≤ Lib.indexByte l c ↔ c ∈ l := by
  induction l with
  | nil => simp [Lib.indexByte]
  | cons b l ih =>
    unfold Lib.indexByte
    by_cases hb : b = c
    · subst hb; simp
    · have h1 : (b == c) = false := by simpa using hb
      rw [h1]
      have hg := Lib.indexByte_ge l c
      by_cases h2 : Lib.indexByte l c = -1
      · rw [h2]
        have : ¬ c ∈ l := fun h => by have := ih.2 h; omega
        simp [this]
        exact fun h => hb h.symm
      · have h3 : (Lib.indexByte l c == -1) = false := by simpa using h2
        have : c ∈ l := ih.1 (by omega)
        simp [h3, this]
        omega
theorem noZero_iff (s : ByteArray) : noZero s ↔ ¬ 0 ≤ Lib.indexByte s.data.toList 0 := by
  rw [index_mem]
  constructor
  · intro h hm
    obtain ⟨i, hi, e⟩ := List.mem_iff_getElem.1 hm
    refine h i (by rw [Array.length_toList] at hi; exact hi) ?_
    unfold chr
    rw [List.getD, List.getElem?_eq_getElem hi, e]
    rfl
  · intro h i hi hc
    apply h
    have hi' : i < s.data.toList.length := by rw [Array.length_toList]; exact hi
    have e : s.data.toList[i] = 0 := by
      unfold chr at hc
      rw [List.getD, List.getElem?_eq_getElem hi'] at hc
      simp only [Option.getD_some] at hc
      apply UInt8.toNat_inj.1
      simpa using hc
    rw [← e]
    exact List.getElem_mem hi'
end Go.Proofs.Ytnnknnaimabehaa
