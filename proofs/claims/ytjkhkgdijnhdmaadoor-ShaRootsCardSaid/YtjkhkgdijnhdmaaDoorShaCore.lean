/- SHA-256, in plain Lean, on numbers from nought up. No program in sight. -/
import Derived.WalkKit
import Derived.Laws.BitsAllLaws
namespace Go.Proofs.YtjkhkgdijnhdmaaDoor
open Go.RowKit

namespace Sh
def rotr (x n : Nat) : Nat := ((x * 2 ^ (32 - n)) % 4294967296) ||| (x / 2 ^ n)
def kTab : List Nat := [
  0x428a2f98, 0x71374491, 0xb5c0fbcf, 0xe9b5dba5, 0x3956c25b, 0x59f111f1, 0x923f82a4, 0xab1c5ed5,
  0xd807aa98, 0x12835b01, 0x243185be, 0x550c7dc3, 0x72be5d74, 0x80deb1fe, 0x9bdc06a7, 0xc19bf174,
  0xe49b69c1, 0xefbe4786, 0x0fc19dc6, 0x240ca1cc, 0x2de92c6f, 0x4a7484aa, 0x5cb0a9dc, 0x76f988da,
  0x983e5152, 0xa831c66d, 0xb00327c8, 0xbf597fc7, 0xc6e00bf3, 0xd5a79147, 0x06ca6351, 0x14292967,
  0x27b70a85, 0x2e1b2138, 0x4d2c6dfc, 0x53380d13, 0x650a7354, 0x766a0abb, 0x81c2c92e, 0x92722c85,
  0xa2bfe8a1, 0xa81a664b, 0xc24b8b70, 0xc76c51a3, 0xd192e819, 0xd6990624, 0xf40e3585, 0x106aa070,
  0x19a4c116, 0x1e376c08, 0x2748774c, 0x34b0bcb5, 0x391c0cb3, 0x4ed8aa4a, 0x5b9cca4f, 0x682e6ff3,
  0x748f82ee, 0x78a5636f, 0x84c87814, 0x8cc70208, 0x90befffa, 0xa4506ceb, 0xbef9a3f7, 0xc67178f2]
/-- The state: eight words. -/
structure St where
  (a b c d e f g h : Nat)
deriving DecidableEq
def St.list (s : St) : List Nat := [s.a, s.b, s.c, s.d, s.e, s.f, s.g, s.h]
def St.ok (s : St) : Prop := ∀ x ∈ s.list, x < 4294967296
def first : St := ⟨0x6a09e667, 0xbb67ae85, 0x3c6ef372, 0xa54ff53a, 0x510e527f, 0x9b05688c, 0x1f83d9ab, 0x5be0cd19⟩
def sig0 (x : Nat) : Nat := rotr x 7 ^^^ rotr x 18 ^^^ (x / 8)
def sig1 (x : Nat) : Nat := rotr x 17 ^^^ rotr x 19 ^^^ (x / 1024)
def Sig1 (e : Nat) : Nat := rotr e 6 ^^^ rotr e 11 ^^^ rotr e 25
def Sig0 (a : Nat) : Nat := rotr a 2 ^^^ rotr a 13 ^^^ rotr a 22
def ch (e f g : Nat) : Nat := (e &&& f) ^^^ ((4294967295 - e) &&& g)
def maj (a b c : Nat) : Nat := (a &&& b) ^^^ (a &&& c) ^^^ (b &&& c)
def M : Nat := 4294967296
def round (s : St) (k w : Nat) : St :=
  let x := (s.h + Sig1 s.e + ch s.e s.f s.g + k + w) % 4294967296
  let y := (Sig0 s.a + maj s.a s.b s.c) % 4294967296
  ⟨(x + y) % 4294967296, s.a, s.b, s.c, (s.d + x) % 4294967296, s.e, s.f, s.g⟩
/-- The word behind m words. -/
def next (W : List Nat) (m : Nat) : Nat := (sig1 (W.getD (m - 2) 0) + W.getD (m - 7) 0 + sig0 (W.getD (m - 15) 0) + W.getD (m - 16) 0) % 4294967296
def four (b : List Nat) (i : Nat) : Nat := b.getD (4 * i) 0 * 16777216 + b.getD (4 * i + 1) 0 * 65536 + b.getD (4 * i + 2) 0 * 256 + b.getD (4 * i + 3) 0
/-- The first m words of a block. -/
def words (b : List Nat) : Nat → List Nat
  | 0 => []
  | m + 1 => words b m ++ [if m < 16 then four b m else next (words b m) m]
def rounds (W : List Nat) (s : St) : Nat → St
  | 0 => s
  | m + 1 => round (rounds W s m) (kTab.getD m 0) (W.getD m 0)
def add (s t : St) : St := ⟨(t.a + s.a) % 4294967296, (t.b + s.b) % 4294967296, (t.c + s.c) % 4294967296, (t.d + s.d) % 4294967296, (t.e + s.e) % 4294967296, (t.f + s.f) % 4294967296, (t.g + s.g) % 4294967296, (t.h + s.h) % 4294967296⟩
def mix (s : St) (b : List Nat) : St := add s (rounds (words b 64) s 64)
/-- The state behind m blocks. -/
def after (all : List Nat) (s : St) : Nat → St
  | 0 => s
  | m + 1 => mix (after all s m) ((all.drop (64 * m)).take 64)
def stateOf (all : List Nat) : St := after all first (all.length / 64)
def restOf (all : List Nat) : List Nat := all.drop (64 * (all.length / 64))
def ends (n : Nat) : Nat := (119 - n % 64) % 64
/-- The eight bytes of a number. -/
def eight (n : Nat) : List Nat := [n / 72057594037927936 % 256, n / 281474976710656 % 256, n / 1099511627776 % 256, n / 4294967296 % 256, n / 16777216 % 256, n / 65536 % 256, n / 256 % 256, n % 256]
def padOf (n : Nat) : List Nat := 128 :: (List.replicate (ends n) 0 ++ eight (n * 8))
def bytes4 (x : Nat) : List Nat := [x / 16777216 % 256, x / 65536 % 256, x / 256 % 256, x % 256]
def outOf (s : St) : List Nat := s.list.flatMap bytes4
def digest (all : List Nat) : List Nat := outOf (stateOf (all ++ padOf all.length))

theorem rotr_lt (x n : Nat) (hx : x < 4294967296) : rotr x n < 4294967296 := by
  unfold rotr
  exact Nat.or_lt_two_pow (n := 32) (by omega) (Nat.lt_of_le_of_lt (Nat.div_le_self _ _) hx)
theorem xor_lt {x y : Nat} (hx : x < 4294967296) (hy : y < 4294967296) : x ^^^ y < 4294967296 := Nat.xor_lt_two_pow (n := 32) hx hy
theorem and_lt {x y : Nat} (hx : x < 4294967296) : x &&& y < 4294967296 := Nat.lt_of_le_of_lt Nat.and_le_left hx
theorem words_len (b : List Nat) (m : Nat) : (words b m).length = m := by induction m with | zero => rfl | succ m ih => simp [words, ih]
theorem four_lt (b : List Nat) (i : Nat) (hb : ∀ x ∈ b, x < 256) : four b i < 4294967296 := by
  have h : ∀ j, b.getD j 0 < 256 := fun j => by
    rw [List.getD]
    cases e : b[j]? with
    | none => simp
    | some x => exact hb x (List.mem_of_getElem? e)
  have h0 := h (4 * i); have h1 := h (4 * i + 1); have h2 := h (4 * i + 2); have h3 := h (4 * i + 3)
  unfold four
  omega
theorem words_lt (b : List Nat) (hb : ∀ x ∈ b, x < 256) (m : Nat) : ∀ x ∈ words b m, x < 4294967296 := by
  induction m with
  | zero => intro x hx; simp [words] at hx
  | succ m ih =>
    intro x hx
    simp only [words, List.mem_append, List.mem_singleton] at hx
    rcases hx with hx | rfl
    · exact ih x hx
    · split
      · exact four_lt b m hb
      · unfold next; omega
theorem round_ok (s : St) (k w : Nat) (h : s.ok) : (round s k w).ok := by
  intro x hx
  simp only [St.list, round, List.mem_cons, List.not_mem_nil, or_false] at hx
  have h' : ∀ y, y ∈ s.list → y < 4294967296 := h
  simp only [St.list, List.mem_cons, List.not_mem_nil, or_false, forall_eq_or_imp, forall_eq] at h'
  rcases hx with rfl | rfl | rfl | rfl | rfl | rfl | rfl | rfl <;> omega
theorem rounds_ok (W : List Nat) (s : St) (h : s.ok) (m : Nat) : (rounds W s m).ok := by
  induction m with
  | zero => exact h
  | succ m ih => exact round_ok _ _ _ ih
theorem add_ok (s t : St) : (add s t).ok := by
  intro x hx
  simp only [St.list, add, List.mem_cons, List.not_mem_nil, or_false] at hx
  rcases hx with rfl | rfl | rfl | rfl | rfl | rfl | rfl | rfl <;> omega
theorem first_ok : first.ok := by unfold St.ok; decide +kernel
theorem after_ok (all : List Nat) (s : St) (h : s.ok) (m : Nat) : (after all s m).ok := by
  cases m with
  | zero => exact h
  | succ m => exact add_ok _ _
theorem stateOf_ok (all : List Nat) : (stateOf all).ok := after_ok _ _ first_ok _
theorem restOf_len (all : List Nat) : (restOf all).length = all.length % 64 := by unfold restOf; rw [List.length_drop]; omega
theorem ends_mod (n : Nat) : (n + (1 + ends n) + 8) % 64 = 0 := by unfold ends; omega
theorem padOf_len (n : Nat) : (padOf n).length = 9 + ends n := by simp [padOf, eight]; omega
theorem pad_mod (n : Nat) : (n + (padOf n).length) % 64 = 0 := by rw [padOf_len]; unfold ends; omega
/-- The blocks that are ahead stay. -/
theorem after_append (a b : List Nat) (s : St) (m : Nat) (h : 64 * m ≤ a.length) : after (a ++ b) s m = after a s m := by
  induction m with
  | zero => rfl
  | succ m ih =>
    simp only [after]
    rw [ih (by omega), List.drop_append_of_le_length (by omega), List.take_append_of_le_length (by rw [List.length_drop]; omega)]
theorem after_add (all : List Nat) (s : St) (m k : Nat) : after all s (m + k) = after (all.drop (64 * m)) (after all s m) k := by
  induction k with
  | zero => rfl
  | succ k ih =>
    show mix (after all s (m + k)) _ = mix (after (all.drop (64 * m)) (after all s m) k) _
    rw [ih, List.drop_drop, show 64 * m + 64 * k = 64 * (m + k) by omega]
    rfl
/-- What comes goes on from what is left. -/
theorem state_more (all bs : List Nat) : stateOf (all ++ bs) = after (restOf all ++ bs) (stateOf all) ((restOf all ++ bs).length / 64) := by
  unfold stateOf
  have e : (all ++ bs).length / 64 = all.length / 64 + (restOf all ++ bs).length / 64 := by
    rw [List.length_append, List.length_append, restOf_len]; omega
  rw [e, after_add, after_append _ _ _ _ (by omega), List.drop_append_of_le_length (by omega)]
  rfl
theorem rest_more (all bs : List Nat) : restOf (all ++ bs) = (restOf all ++ bs).drop (64 * ((restOf all ++ bs).length / 64)) := by
  unfold restOf
  have e : (all ++ bs).length / 64 = all.length / 64 + (all.drop (64 * (all.length / 64)) ++ bs).length / 64 := by
    rw [List.length_append, List.length_append, List.length_drop]; omega
  rw [e, Nat.mul_add, ← List.drop_drop, List.drop_append_of_le_length (by omega)]
theorem digest_len (all : List Nat) : (digest all).length = 32 := rfl
theorem digest_in (all : List Nat) : ∀ x ∈ digest all, x < 256 := by
  intro x hx
  simp only [digest, outOf, List.mem_flatMap, bytes4, List.mem_cons, List.not_mem_nil, or_false] at hx
  obtain ⟨y, _, hx⟩ := hx
  omega
end Sh
end Go.Proofs.YtjkhkgdijnhdmaaDoor
