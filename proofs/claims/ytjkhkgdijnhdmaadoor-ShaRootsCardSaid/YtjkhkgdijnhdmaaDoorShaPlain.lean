/- Plain words of the hash's texts: hexadecimal digits. -/
import Derived.ProofKit
import Derived.Lib.Bytealg
namespace Go.Proofs.YtjkhkgdijnhdmaaDoor
/-- A digit of a number below 16. -/
def nib (n : Int) : Int := if n < 10 then 48 + n else 87 + n
/-- The text of bytes. -/
def hexL : List Int → List Int
  | [] => []
  | x :: l => nib (x / 16) :: nib (x % 16) :: hexL l
def bytesOf (l : List Int) : List UInt8 := l.map fun x => x.toNat.toUInt8
theorem hexL_len (l : List Int) : (hexL l).length = 2 * l.length := by induction l with | nil => rfl | cons x l ih => simp [hexL, ih]; omega
theorem hexL_append (l m : List Int) : hexL (l ++ m) = hexL l ++ hexL m := by induction l with | nil => rfl | cons x l ih => simp [hexL, ih]
theorem hexL_take (l : List Int) (j : Nat) (x : Int) (h : l[j]? = some x) : hexL (l.take (j + 1)) = hexL (l.take j) ++ [nib (x / 16), nib (x % 16)] := by
  rw [List.take_add_one, h, Option.toList_some, hexL_append]; rfl
theorem nib_in (n : Int) (h : 0 ≤ n) (h' : n < 16) : 48 ≤ nib n ∧ nib n < 128 := by unfold nib; split <;> omega
theorem hexL_in (l : List Int) (h : ∀ x ∈ l, 0 ≤ x ∧ x < 256) : ∀ x ∈ hexL l, 0 ≤ x ∧ x < 256 := by
  induction l with
  | nil => intro x hx; simp [hexL] at hx
  | cons y l ih =>
    intro x hx
    have hy := h y (by simp)
    simp only [hexL, List.mem_cons] at hx
    rcases hx with rfl | rfl | hx
    · have := nib_in (y / 16) (by omega) (by omega); omega
    · have := nib_in (y % 16) (by omega) (by omega); omega
    · exact ih (fun z hz => h z (List.mem_cons_of_mem _ hz)) x hx
/-- A byte of a string, as a number. -/
def chr (s : ByteArray) (i : Nat) : Int := (s.data.toList.getD i 0).toNat
/-- What number a digit is; -1: it is none. -/
def digU (b : UInt8) : Int := Lib.indexByte [48, 49, 50, 51, 52, 53, 54, 55, 56, 57, 97, 98, 99, 100, 101, 102] b
def dig (c : Int) : Int := digU c.toNat.toUInt8
theorem digU_all : ∀ n : Nat, n < 256 → (digU (UInt8.ofNat n) = -1 ∨ (0 ≤ digU (UInt8.ofNat n) ∧ digU (UInt8.ofNat n) < 16 ∧ nib (digU (UInt8.ofNat n)) = n)) := by decide +kernel
theorem nib_all : ∀ n : Nat, n < 16 → dig (nib n) = n := by decide +kernel
theorem dig_any (c : Int) (h0 : 0 ≤ c) (h1 : c < 256) : dig c = -1 ∨ (0 ≤ dig c ∧ dig c < 16 ∧ nib (dig c) = c) := by
  obtain ⟨n, rfl⟩ := Int.eq_ofNat_of_zero_le h0
  have := digU_all n (by omega)
  simpa [dig] using this
theorem dig_nib (n : Int) (h0 : 0 ≤ n) (h1 : n < 16) : dig (nib n) = n := by
  obtain ⟨k, rfl⟩ := Int.eq_ofNat_of_zero_le h0
  exact nib_all k (by omega)
theorem chr_in (s : ByteArray) (i : Nat) : 0 ≤ chr s i ∧ chr s i < 256 := by
  unfold chr
  have := (s.data.toList.getD i 0).toNat_lt
  omega
/-- The bytes that digits say, two and two; the first m. -/
def pairL (f : Nat → Int) (m : Nat) : List Int := (List.range m).map fun i => f (2 * i) * 16 + f (2 * i + 1)
theorem pairL_succ (f : Nat → Int) (m : Nat) : pairL f (m + 1) = pairL f m ++ [f (2 * m) * 16 + f (2 * m + 1)] := by simp [pairL, List.range_succ]
theorem pairL_len (f : Nat → Int) (m : Nat) : (pairL f m).length = m := by simp [pairL]
/-- The number of a digit; of anything else nought: what is found among the first e. -/
def valTo (c : Int) (e : Nat) : Int := if 0 ≤ dig c ∧ dig c < e then dig c else 0
def val (c : Int) : Int := valTo c 16
theorem valTo_in (c : Int) (e : Nat) (he : e ≤ 16) : 0 ≤ valTo c e ∧ valTo c e < 16 := by unfold valTo; split <;> omega
theorem valTo_yes (c : Int) (e : Nat) (he : e < 16) (h : nib e = c) : valTo c (e + 1) = e := by
  have : dig c = e := by rw [← h]; exact dig_nib e (by omega) (by omega)
  unfold valTo; rw [this, if_pos (by omega)]
theorem valTo_no (c : Int) (e : Nat) (h0 : 0 ≤ c) (h1 : c < 256) (h : nib e ≠ c) : valTo c (e + 1) = valTo c e := by
  have hne : dig c ≠ e := fun hc => by
    rcases dig_any c h0 h1 with h' | ⟨h2, h3, h4⟩
    · omega
    · rw [hc] at h4; exact h h4
  unfold valTo
  by_cases h2 : 0 ≤ dig c ∧ dig c < e
  · rw [if_pos h2, if_pos (by omega)]
  · rw [if_neg h2, if_neg (by omega)]
/-- The bytes behind the first i characters. -/
def refAt (v : Nat → Int) (i k : Nat) : Int := if 2 * k + 1 < i then v (2 * k) * 16 + v (2 * k + 1) else if 2 * k < i then v (2 * k) else 0
def refL (v : Nat → Int) (i : Nat) : List Int := (List.range 32).map (refAt v i)
theorem refL_len (v : Nat → Int) (i : Nat) : (refL v i).length = 32 := by simp [refL]
theorem refL_get (v : Nat → Int) (i k : Nat) (h : k < 32) : (refL v i)[k]? = some (refAt v i k) := by simp [refL, h]
theorem refL_step (v : Nat → Int) (i : Nat) : (refL v i).set (i / 2) (refAt v i (i / 2) * 16 + v i) = refL v (i + 1) := by
  apply List.ext_getElem?
  intro k
  rw [List.getElem?_set]
  by_cases hk : i / 2 = k
  · rw [if_pos hk]
    subst hk
    by_cases h32 : i / 2 < 32
    · rw [refL_len, if_pos h32, refL_get _ _ _ h32]
      congr 1
      unfold refAt
      rcases Nat.mod_two_eq_zero_or_one i with h | h
      · have e : 2 * (i / 2) = i := by omega
        rw [e, if_neg (by omega), if_neg (by omega), if_neg (by omega), if_pos (by omega)]
        omega
      · have e : 2 * (i / 2) + 1 = i := by omega
        rw [if_neg (by omega), if_pos (by omega), if_pos (by omega), e]
    · rw [refL_len, if_neg h32, List.getElem?_eq_none (by rw [refL_len]; omega)]
  · rw [if_neg hk]
    by_cases h32 : k < 32
    · rw [refL_get _ _ _ h32, refL_get _ _ _ h32]
      congr 1
      unfold refAt
      by_cases h1 : 2 * k + 1 < i
      · rw [if_pos h1, if_pos (by omega)]
      · by_cases h2 : 2 * k < i
        · omega
        · rw [if_neg h1, if_neg h2, if_neg (by omega), if_neg (by omega)]
    · rw [List.getElem?_eq_none (by rw [refL_len]; omega), List.getElem?_eq_none (by rw [refL_len]; omega)]
theorem refL_zero (v : Nat → Int) : refL v 0 = List.replicate 32 0 := by
  apply List.ext_getElem?
  intro k
  by_cases h32 : k < 32
  · rw [refL_get _ _ _ h32, List.getElem?_replicate, if_pos h32]; rfl
  · rw [List.getElem?_eq_none (by rw [refL_len]; omega), List.getElem?_eq_none (by simp; omega)]
theorem refL_all (v : Nat → Int) : refL v 64 = pairL v 32 := by
  unfold refL pairL
  refine List.map_congr_left fun k hk => ?_
  have : k < 32 := by simpa using hk
  unfold refAt
  rw [if_pos (by omega)]
theorem refAt_in (v : Nat → Int) (i k : Nat) (hv : ∀ i, 0 ≤ v i ∧ v i < 16) : 0 ≤ refAt v i k ∧ refAt v i k < 256 := by
  have h1 := hv (2 * k)
  have h2 := hv (2 * k + 1)
  unfold refAt
  split
  · omega
  · split <;> omega
theorem refAt_low (v : Nat → Int) (i : Nat) (hv : ∀ i, 0 ≤ v i ∧ v i < 16) : 0 ≤ refAt v i (i / 2) ∧ refAt v i (i / 2) < 16 := by
  have h1 := hv (2 * (i / 2))
  unfold refAt
  rw [if_neg (by omega)]
  split <;> omega
theorem pairL_in (v : Nat → Int) (m : Nat) (hv : ∀ i, 0 ≤ v i ∧ v i < 16) : ∀ x ∈ pairL v m, 0 ≤ x ∧ x < 256 := by
  intro x hx
  simp only [pairL, List.mem_map] at hx
  obtain ⟨k, _, rfl⟩ := hx
  have h1 := hv (2 * k)
  have h2 := hv (2 * k + 1)
  omega
end Go.Proofs.YtjkhkgdijnhdmaaDoor
