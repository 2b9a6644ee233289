/- Digits, in plain lists of bytes. -/
import Derived.ProofKit
import Derived.Lib.ItoaNum
namespace Go.Proofs.YtgeocjodkkkiiaaDoor
/-- The string of these bytes. -/
def strU (l : List Int) : ByteArray := ⟨(l.map fun x => UInt8.ofNat x.toNat).toArray⟩
theorem strU_size (l : List Int) : (strU l).size = l.length := by simp [strU, ByteArray.size]
theorem strU_append (l m : List Int) : strU l ++ strU m = strU (l ++ m) := by
  apply ByteArray.ext
  simp [strU]
/-- A byte of a string, as a number. -/
def chr (s : ByteArray) (i : Nat) : Int := (s.data.toList.getD i 0).toNat
theorem chr_in (s : ByteArray) (i : Nat) : 0 ≤ chr s i ∧ chr s i < 256 := by
  unfold chr
  have := (s.data.toList.getD i 0).toNat_lt
  omega
theorem chr_at (s : ByteArray) (i : Nat) (h : i < s.size) : chr s i = ((s[i]'h).toNat : Int) := by
  have h2 : i < s.data.toList.length := by simpa using h
  unfold chr
  rw [List.getD, List.getElem?_eq_getElem h2]
  rfl
def twoL (n : Int) : List Int := [48 + n / 10 % 10, 48 + n % 10]
def fourL (n : Int) : List Int := [48 + n / 100 / 10 % 10, 48 + n / 100 % 10, 48 + n % 100 / 10 % 10, 48 + n % 100 % 10]
theorem dec_one (u : Nat) (h : u < 10) : Lib.decDigits u = [UInt8.ofNat (48 + u)] := by rw [Lib.decDigits, dif_pos h]
theorem dec_step (u : Nat) (h : ¬ u < 10) : Lib.decDigits u = Lib.decDigits (u / 10) ++ [UInt8.ofNat (48 + u % 10)] := by rw [Lib.decDigits, dif_neg h]
theorem dec_two (u : Nat) (h : ¬ u < 10) (h' : u < 100) : Lib.decDigits u = [UInt8.ofNat (48 + u / 10), UInt8.ofNat (48 + u % 10)] := by
  rw [dec_step u h, dec_one (u / 10) (by omega)]; rfl
theorem dec_four (u : Nat) (h : 1000 ≤ u) (h' : u < 10000) : (⟨(Lib.decDigits u).toArray⟩ : ByteArray) = strU (fourL u) := by
  rw [dec_step u (by omega), dec_step (u / 10) (by omega), dec_step (u / 10 / 10) (by omega), dec_one (u / 10 / 10 / 10) (by omega)]
  unfold strU fourL
  congr 2
  simp only [List.cons_append, List.nil_append, List.map_cons, List.map_nil]
  congr 1
  · congr 1; omega
  congr 1
  · congr 1; omega
  congr 1
  · congr 1; omega
  congr 1
  · congr 1; omega
theorem dec_small (u : Nat) (h : u < 10) : strU [48] ++ (⟨(Lib.decDigits u).toArray⟩ : ByteArray) = strU (twoL u) := by
  rw [dec_one u h]
  have e : (⟨#[UInt8.ofNat (48 + u)]⟩ : ByteArray) = strU [48 + (u : Int)] := by
    unfold strU
    simp only [List.map_cons, List.map_nil]
    rw [show (48 + (u : Int)).toNat = 48 + u by omega]
  show _ ++ (⟨#[UInt8.ofNat (48 + u)]⟩ : ByteArray) = _
  rw [e, strU_append]
  unfold twoL
  congr 1
  simp only [List.cons_append, List.nil_append]
  rw [show (u : Int) / 10 % 10 = 0 by omega, show (u : Int) % 10 = u by omega]; rfl
theorem dec_big (u : Nat) (h : ¬ u < 10) (h' : u < 100) : (⟨(Lib.decDigits u).toArray⟩ : ByteArray) = strU (twoL u) := by
  rw [dec_two u h h']
  unfold strU twoL
  congr 2
  simp only [List.map_cons, List.map_nil]
  rw [show (48 + (u : Int) / 10 % 10).toNat = 48 + u / 10 by omega, show (48 + (u : Int) % 10).toNat = 48 + u % 10 by omega]
/-- What digits say; -1: they are none. -/
def digB (c : Int) : Bool := decide (48 ≤ c ∧ c ≤ 57)
def numL : List Int → Int → Int
  | [], n => n
  | c :: l, n => if digB c = true then numL l (n * 10 + (c - 48)) else -1
def bytesS (s : ByteArray) : List Int := s.data.toList.map fun b => (b.toNat : Int)
theorem bytesS_len (s : ByteArray) : (bytesS s).length = s.size := by simp [bytesS]
theorem bytesS_str (s : ByteArray) : strU (bytesS s) = s := by
  apply ByteArray.ext
  apply Array.ext'
  simp only [strU, bytesS, List.map_map]
  conv => rhs; rw [← List.map_id s.data.toList]
  apply List.map_congr_left
  intro b _
  simp
theorem bytesS_in (s : ByteArray) : ∀ x ∈ bytesS s, 0 ≤ x ∧ x < 256 := by
  intro x hx
  simp only [bytesS, List.mem_map] at hx
  obtain ⟨b, _, rfl⟩ := hx
  have := b.toNat_lt
  omega
theorem strU_inj {l m : List Int} (hl : ∀ x ∈ l, 0 ≤ x ∧ x < 256) (hm : ∀ x ∈ m, 0 ≤ x ∧ x < 256) (h : strU l = strU m) : l = m := by
  have back : ∀ l : List Int, (∀ x ∈ l, 0 ≤ x ∧ x < 256) → bytesS (strU l) = l := by
    intro l hl
    unfold bytesS strU
    simp only [List.map_map]
    conv => rhs; rw [← List.map_id l]
    apply List.map_congr_left
    intro x hx
    have := hl x hx
    simp
    omega
  rw [← back l hl, ← back m hm, h]
theorem bytesS_at (s : ByteArray) (i : Nat) (h : i < s.size) : (bytesS s)[i]? = some ((s[i]'h).toNat : Int) := by
  have h2 : i < s.data.toList.length := by simpa using h
  simp only [bytesS, List.getElem?_map, List.getElem?_eq_getElem h2, Option.map_some]
  rfl
end Go.Proofs.YtgeocjodkkkiiaaDoor
