/- Bits in bytes, in plain Lean. No program in sight. -/
import Derived.Test.YtcipleanckeoaaaDoorYTk
import Derived.Test.YtcipleanckeoaaaDoorYCommon
import Derived.Test.YtcipleanckeoaaaDoorRows
import Derived.WalkKit
import Derived.WalkSpells
import Derived.WalkLawsBesides
import Derived.BigQuiet
import Derived.Deep.QuietTactic
import Derived.Deep.RegionHeld3
import Derived.Deep.AppendLies
import Derived.Lib.Hide
import Derived.LoopIn
import Derived.Shelf.Abstract
import Derived.Laws.BytesArg
import Derived.Laws.OwnMore
import Derived.Lib.AppendZerosOnto
import Derived.RangeFuncNested
import Derived.RangeFuncBound
import Derived.RangeFuncCalls
import Derived.RangeFuncLeaves
import Derived.Shelf.RegionOpen
import Derived.OwnWalkIn
import Derived.TacticsInMore
import Derived.LoopNIn
import Derived.Maps.AppendAt
import Derived.Lib.Builder
import Derived.Below
set_option maxRecDepth 100000
set_option maxHeartbeats 40000000
namespace Go.Proofs.YtcipleanckeoaaaDoor
open Go.RowKit
def bsum : List Bool → Int
 | [] => 0
 | b :: t => (if b then 1 else 0) + 2 * bsum t
theorem bsum_append (u : List Bool) (b : Bool) : bsum (u ++ [b]) = bsum u + if b then (2 : Int) ^ u.length else 0 := by
 induction u with
 | nil => cases b <;> simp [bsum]
 | cons a t ih =>
  simp only [List.cons_append, bsum, ih, List.length_cons, Int.pow_succ]
  cases a <;> cases b <;> simp <;> omega
theorem bsum_range (u : List Bool) : 0 ≤ bsum u ∧ bsum u < (2 : Int) ^ u.length := by
 induction u with
 | nil => simp [bsum]
 | cons a t ih =>
  simp only [bsum, List.length_cons, Int.pow_succ]
  cases a <;> simp <;> omega
def byteOf (l : List Bool) (j : Nat) : Int := bsum ((l.drop (8 * j)).take 8)
def packN (l : List Bool) : List Int := (List.range ((l.length + 7) / 8)).map (byteOf l)
theorem packN_len (l : List Bool) : (packN l).length = (l.length + 7) / 8 := by simp [packN]
theorem byteOf_small (l : List Bool) (j : Nat) : 0 ≤ byteOf l j ∧ byteOf l j < 256 := by
 have h := bsum_range ((l.drop (8 * j)).take 8)
 have hl : ((l.drop (8 * j)).take 8).length ≤ 8 := by simp; omega
 have : (2 : Int) ^ ((l.drop (8 * j)).take 8).length ≤ 2 ^ 8 := by exact_mod_cast Nat.pow_le_pow_right (by omega : 0 < 2) hl
 unfold byteOf
 omega
def bitAt (b : List Int) (n : Nat) : Bool := decide ((b.getD (n / 8) 0) / (2 : Int) ^ (n % 8) % 2 = 1)
theorem bitAt_out (b : List Int) (n : Nat) (h : b.length ≤ n / 8) : bitAt b n = false := by
 unfold bitAt
 rw [List.getD, List.getElem?_eq_none h]
 simp
theorem bitAt_in (b : List Int) (n : Nat) (x : Int) (h : b[n / 8]? = some x) : bitAt b n = decide (x / (2 : Int) ^ (n % 8) % 2 = 1) := by
 unfold bitAt
 rw [List.getD, h]
 rfl
structure AskP where
 fn : Int
 addr : Int
 count : Int
 to : Int
 bits : List Bool
 regs : List Int
deriving DecidableEq
structure RepP where
 fn : Int
 code : Int
 bits : List Bool
 regs : List Int
deriving DecidableEq
def ask0 : AskP := ⟨0, 0, 0, 0, [], []⟩
def limP (fn : Int) : Option (Int × Int × Int) :=
 if fn = 1 ∨ fn = 2 then some (2000, 0, 0)
 else if fn = 3 ∨ fn = 4 then some (125, 0, 0)
 else if fn = 5 then some (0, 1, 0)
 else if fn = 6 then some (0, 0, 1)
 else if fn = 15 then some (0, 1968, 0)
 else if fn = 16 then some (0, 0, 123)
 else if fn = 23 then some (125, 0, 121)
 else none
def fitP (n most : Int) : Bool := decide (min 1 most ≤ n) && decide (n ≤ most)
def longP (a : AskP) : Int := if a.fn = 5 ∨ a.fn = 6 ∨ a.fn = 15 ∨ a.fn = 16 then (a.bits.length : Int) + a.regs.length else a.count
def limitsP (a : AskP) : Bool :=
 match limP a.fn with
 | none => false
 | some (r, b, g) => fitP a.count r && fitP a.bits.length b && fitP a.regs.length g
def placeP (a : AskP) : Bool := decide (0 ≤ a.addr) && decide (0 ≤ a.to) && decide (a.addr ≤ 65535) && decide (a.to ≤ 65535) && (decide (a.to = 0) || decide (a.fn = 23)) && decide (a.addr + longP a ≤ 65536) && (decide (a.fn ≠ 23) || decide (a.to + a.regs.length ≤ 65536))
def mayP (a : AskP) : Bool := limitsP a && placeP a
def twoI (n : Int) : List Int := [n / 256, n % 256]
def twosI (l : List Int) : List Int := l.flatMap twoI
theorem twoI_len (n : Int) : (twoI n).length = 2 := rfl
theorem twosI_len (l : List Int) : (twosI l).length = 2 * l.length := by
 induction l with
 | nil => rfl
 | cons a l ih => simp only [twosI, List.flatMap_cons, List.length_append, List.length_cons, twoI_len] at ih ⊢; omega
theorem twosI_snoc (l : List Int) (x : Int) : twosI (l ++ [x]) = twosI l ++ twoI x := by simp [twosI]
def bytesP (a : AskP) : List Int :=
 if a.fn = 5 then a.fn :: twoI a.addr ++ (if a.bits.getD 0 false then [255, 0] else [0, 0])
 else if a.fn = 6 then a.fn :: twoI a.addr ++ twoI (a.regs.getD 0 0)
 else if a.fn = 15 then a.fn :: twoI a.addr ++ twoI a.bits.length ++ ((packN a.bits).length : Int) :: packN a.bits
 else if a.fn = 16 then a.fn :: twoI a.addr ++ twoI a.regs.length ++ (2 * a.regs.length : Int) :: twosI a.regs
 else if a.fn = 23 then a.fn :: twoI a.addr ++ twoI a.count ++ twoI a.to ++ twoI a.regs.length ++ (2 * a.regs.length : Int) :: twosI a.regs
 else a.fn :: twoI a.addr ++ twoI a.count
def unpackP (b : List Int) (n : Nat) : List Bool := (List.range n).map (bitAt b)
def wordP (b : List Int) (i : Nat) : Int := b.getD i 0 * 256 + b.getD (i + 1) 0
def wordsP (b : List Int) : List Int := (List.range (b.length / 2)).map fun k => wordP b (2 * k)
theorem unpackP_len (b : List Int) (n : Nat) : (unpackP b n).length = n := by simp [unpackP]
theorem wordsP_len (b : List Int) : (wordsP b).length = b.length / 2 := by simp [wordsP]
def parseP (b : List Int) : Option AskP :=
 let f := b.getD 0 0
 let ad := wordP b 1
 let n := wordP b 3
 if b.length < 5 then none
 else if f = 5 then if b.length = 5 ∧ (n = 65280 ∨ n = 0) then some ⟨5, ad, 0, 0, [decide (n = 65280)], []⟩ else none
 else if f = 6 then if b.length = 5 then some ⟨6, ad, 0, 0, [], [n]⟩ else none
 else if f = 15 then if (1 ≤ n ∧ n ≤ 1968) ∧ 6 ≤ b.length ∧ b.getD 5 0 = (n + 7) / 8 ∧ (b.length : Int) = 6 + (n + 7) / 8 then some ⟨15, ad, 0, 0, unpackP (b.drop 6) n.toNat, []⟩ else none
 else if f = 16 then if (1 ≤ n ∧ n ≤ 123) ∧ 6 ≤ b.length ∧ b.getD 5 0 = 2 * n ∧ (b.length : Int) = 6 + 2 * n then some ⟨16, ad, 0, 0, [], wordsP (b.drop 6)⟩ else none
 else if f = 23 then if (1 ≤ n ∧ n ≤ 125) ∧ 10 ≤ b.length ∧ (1 ≤ wordP b 7 ∧ wordP b 7 ≤ 121) ∧ b.getD 9 0 = 2 * wordP b 7 ∧ (b.length : Int) = 10 + 2 * wordP b 7 then some ⟨23, ad, n, wordP b 5, [], wordsP (b.drop 10)⟩ else none
 else match limP f with
  | some (r, _, _) => if b.length = 5 ∧ fitP n r then some ⟨f, ad, n, 0, [], []⟩ else none
  | none => none
def readP (b : List Int) : AskP × Int × Int :=
 if b.length = 0 ∨ 253 < b.length then (ask0, 0, 190)
 else match limP (b.getD 0 0) with
  | none => (ask0, 1, 190)
  | some _ => match parseP b with
   | none => (ask0, 3, 190)
   | some a => if mayP a then (a, 0, 0) else (ask0, 2, 190)
def wantB (a : AskP) : Int := if a.fn = 1 ∨ a.fn = 2 then a.count else 0
def wantR (a : AskP) : Int := if a.fn = 3 ∨ a.fn = 4 ∨ a.fn = 23 then a.count else 0
def answerP (a : AskP) (r : RepP) : Option (List Int) :=
 if mayP a = false ∨ r.fn ≠ a.fn then none
 else if r.code ≠ 0 then
  if r.code < 1 ∨ 11 < r.code ∨ 0 < r.bits.length + r.regs.length then none else some [a.fn + 128, r.code]
 else if (r.bits.length : Int) ≠ wantB a ∨ (r.regs.length : Int) ≠ wantR a then none
 else if a.fn = 1 ∨ a.fn = 2 then some (a.fn :: ((packN r.bits).length : Int) :: packN r.bits)
 else if a.fn = 5 ∨ a.fn = 6 then some (bytesP a)
 else if a.fn = 15 ∨ a.fn = 16 then some (a.fn :: twoI a.addr ++ twoI ((a.bits.length : Int) + a.regs.length))
 else some (a.fn :: (2 * r.regs.length : Int) :: twosI r.regs)
def Byte8 (l : List Int) : Prop := ∀ x ∈ l, 0 ≤ x ∧ x < 256
def Reg16 (l : List Int) : Prop := ∀ x ∈ l, 0 ≤ x ∧ x < 65536
theorem Byte8.cons {a : Int} {l : List Int} (h : Byte8 (a :: l)) : (0 ≤ a ∧ a < 256) ∧ Byte8 l := ⟨h a (by simp), fun x hx => h x (by simp [hx])⟩
theorem Byte8.mk {a : Int} {l : List Int} (ha : 0 ≤ a ∧ a < 256) (h : Byte8 l) : Byte8 (a :: l) := fun x hx => by
 rcases List.mem_cons.1 hx with rfl | hx
 ·exact ha
 ·exact h x hx
theorem Byte8.append {a l : List Int} (ha : Byte8 a) (h : Byte8 l) : Byte8 (a ++ l) := fun x hx => by
 rcases List.mem_append.1 hx with hx | hx
 ·exact ha x hx
 ·exact h x hx
theorem Byte8.nil : Byte8 [] := fun x hx => by simp at hx
theorem byte8_two {n : Int} (h : 0 ≤ n ∧ n < 65536) : Byte8 (twoI n) := by
 unfold twoI
 exact Byte8.mk (by omega) (Byte8.mk (by omega) Byte8.nil)
theorem byte8_twos {l : List Int} (h : Reg16 l) : Byte8 (twosI l) := by
 induction l with
 | nil => exact Byte8.nil
 | cons a t ih => exact (byte8_two (h a (by simp))).append (ih fun x hx => h x (by simp [hx]))
theorem bsum_bit (u : List Bool) (m : Nat) : bsum u / (2 : Int) ^ m % 2 = if u.getD m false then 1 else 0 := by
 induction u generalizing m with
 | nil => simp [bsum]
 | cons a t ih =>
  cases m with
  | zero => cases a <;> simp [bsum] <;> omega
  | succ m =>
   have e : bsum (a :: t) / (2 : Int) ^ (m + 1) = bsum t / 2 ^ m := by
    rw [Int.pow_succ, Int.mul_comm, ← Int.ediv_ediv_of_nonneg (by omega)]
    congr 1
    cases a <;> simp [bsum] <;> omega
   rw [e, ih]
   simp
theorem byteOf_bit (l : List Bool) (j m : Nat) (hm : m < 8) : byteOf l j / (2 : Int) ^ m % 2 = if l.getD (8 * j + m) false then 1 else 0 := by
 unfold byteOf
 have e : ((l.drop (8 * j)).take 8).getD m false = l.getD (8 * j + m) false := by simp [List.getD, List.getElem?_drop, hm]
 rw [bsum_bit, e]
theorem packN_get (l : List Bool) (j : Nat) (h : j < (l.length + 7) / 8) : (packN l)[j]? = some (byteOf l j) := by
 unfold packN
 simp [h]
theorem bitAt_pack (l : List Bool) (i : Nat) (h : i < l.length) : bitAt (packN l) i = l[i] := by
 rw [bitAt_in _ _ (byteOf l (i / 8)) (packN_get l _ (by omega)), byteOf_bit l _ _ (by omega), show 8 * (i / 8) + i % 8 = i by omega]
 simp [List.getD, h]
theorem unpack_pack (l : List Bool) : unpackP (packN l) l.length = l := by
 apply List.ext_getElem
 ·simp [unpackP]
 ·intro i h1 h2
  simp [unpackP, bitAt_pack l i h2]
theorem twosI_cons (a : Int) (t : List Int) : twosI (a :: t) = a / 256 :: a % 256 :: twosI t := by simp [twosI, twoI]
theorem twosI_get (l : List Int) (k : Nat) (h : k < l.length) : (twosI l).getD (2 * k) 0 = l[k] / 256 ∧ (twosI l).getD (2 * k + 1) 0 = l[k] % 256 := by
 induction l generalizing k with
 | nil => simp at h
 | cons a t ih =>
  cases k with
  | zero => simp [twosI_cons]
  | succ k =>
   have := ih k (by simpa using h)
   rw [twosI_cons, show 2 * (k + 1) = 2 * k + 1 + 1 by omega]
   simpa using this
theorem words_twos (l : List Int) : wordsP (twosI l) = l := by
 apply List.ext_getElem
 ·simp [wordsP_len, twosI_len]
 ·intro k h1 h2
  simp only [wordsP, List.getElem_map, List.getElem_range, wordP]
  rw [(twosI_get l k h2).1, (twosI_get l k h2).2]
  omega
theorem may_cases (a : AskP) (h : mayP a = true) : ((0 ≤ a.addr ∧ a.addr < 65536) ∧ 0 ≤ a.to ∧ a.to < 65536) ∧
  (((a.fn = 1 ∨ a.fn = 2) ∧ (1 ≤ a.count ∧ a.count ≤ 2000) ∧ a.bits = [] ∧ a.regs = [] ∧ a.to = 0) ∨
     ((a.fn = 3 ∨ a.fn = 4) ∧ (1 ≤ a.count ∧ a.count ≤ 125) ∧ a.bits = [] ∧ a.regs = [] ∧ a.to = 0) ∨
     (a.fn = 5 ∧ a.count = 0 ∧ (∃ b, a.bits = [b]) ∧ a.regs = [] ∧ a.to = 0) ∨
     (a.fn = 6 ∧ a.count = 0 ∧ a.bits = [] ∧ (∃ r, a.regs = [r]) ∧ a.to = 0) ∨
     (a.fn = 15 ∧ a.count = 0 ∧ (1 ≤ a.bits.length ∧ a.bits.length ≤ 1968) ∧ a.regs = [] ∧ a.to = 0) ∨
     (a.fn = 16 ∧ a.count = 0 ∧ a.bits = [] ∧ (1 ≤ a.regs.length ∧ a.regs.length ≤ 123) ∧ a.to = 0) ∨
     (a.fn = 23 ∧ (1 ≤ a.count ∧ a.count ≤ 125) ∧ a.bits = [] ∧ (1 ≤ a.regs.length ∧ a.regs.length ≤ 121))) := by
 obtain ⟨fn, addr, count, to, bits, regs⟩ := a
 simp only [mayP, limitsP, placeP, Bool.and_eq_true, Bool.or_eq_true, decide_eq_true_eq, fitP] at h ⊢
 obtain ⟨h, hp⟩ := h
 refine ⟨by omega, ?_⟩
 have one {α : Type} (l : List α) (h : l.length = 1) : ∃ b, l = [b] := by
  match l, h with
  | [b], _ => exact ⟨b, rfl⟩
 have none_ {α : Type} (l : List α) (h : l.length = 0) : l = [] := List.length_eq_zero_iff.1 h
 unfold limP at h
 by_cases e1 : fn = 1 ∨ fn = 2
 ·rw [if_pos e1] at h
  simp only [Bool.and_eq_true, decide_eq_true_eq] at h
  exact .inl ⟨e1, by omega, none_ _ (by omega), none_ _ (by omega), by omega⟩
 rw [if_neg e1] at h
 by_cases e2 : fn = 3 ∨ fn = 4
 ·rw [if_pos e2] at h
  simp only [Bool.and_eq_true, decide_eq_true_eq] at h
  exact .inr (.inl ⟨e2, by omega, none_ _ (by omega), none_ _ (by omega), by omega⟩)
 rw [if_neg e2] at h
 by_cases e3 : fn = 5
 ·rw [if_pos e3] at h
  simp only [Bool.and_eq_true, decide_eq_true_eq] at h
  exact .inr (.inr (.inl ⟨e3, by omega, one _ (by omega), none_ _ (by omega), by omega⟩))
 rw [if_neg e3] at h
 by_cases e4 : fn = 6
 ·rw [if_pos e4] at h
  simp only [Bool.and_eq_true, decide_eq_true_eq] at h
  exact .inr (.inr (.inr (.inl ⟨e4, by omega, none_ _ (by omega), one _ (by omega), by omega⟩)))
 rw [if_neg e4] at h
 by_cases e5 : fn = 15
 ·rw [if_pos e5] at h
  simp only [Bool.and_eq_true, decide_eq_true_eq] at h
  exact .inr (.inr (.inr (.inr (.inl ⟨e5, by omega, by omega, none_ _ (by omega), by omega⟩))))
 rw [if_neg e5] at h
 by_cases e6 : fn = 16
 ·rw [if_pos e6] at h
  simp only [Bool.and_eq_true, decide_eq_true_eq] at h
  exact .inr (.inr (.inr (.inr (.inr (.inl ⟨e6, by omega, none_ _ (by omega), by omega, by omega⟩)))))
 rw [if_neg e6] at h
 by_cases e7 : fn = 23
 ·rw [if_pos e7] at h
  simp only [Bool.and_eq_true, decide_eq_true_eq] at h
  exact .inr (.inr (.inr (.inr (.inr (.inr ⟨e7, by omega, none_ _ (by omega), by omega⟩)))))
 rw [if_neg e7] at h
 cases h
theorem read_of (b : List Int) (a : AskP) (h1 : 0 < b.length) (h2 : b.length ≤ 253) (h3 : (limP (b.getD 0 0)).isSome = true) (h4 : parseP b = some a) (h5 : mayP a = true) : readP b = (a, 0, 0) := by
 obtain ⟨l, hl⟩ := Option.isSome_iff_exists.1 h3
 unfold readP
 rw [if_neg (by omega), hl, h4]
 simp only [h5, if_true]
theorem word1 (f a : Int) (t : List Int) : wordP (f :: a / 256 :: a % 256 :: t) 1 = a := by simp [wordP]; omega
theorem word3 (f p q a : Int) (t : List Int) : wordP (f :: p :: q :: a / 256 :: a % 256 :: t) 3 = a := by simp [wordP]; omega
theorem word5 (f p q r s a : Int) (t : List Int) : wordP (f :: p :: q :: r :: s :: a / 256 :: a % 256 :: t) 5 = a := by simp [wordP]; omega
theorem word7 (f p q r s u v a : Int) (t : List Int) : wordP (f :: p :: q :: r :: s :: u :: v :: a / 256 :: a % 256 :: t) 7 = a := by simp [wordP]; omega
theorem read_bytes (a : AskP) (h : mayP a = true) : readP (bytesP a) = (a, 0, 0) ∧ 0 < (bytesP a).length ∧ (bytesP a).length ≤ 253 ∧ (bytesP a).getD 0 0 = a.fn ∧ 1 ≤ a.fn ∧ a.fn ≤ 23 := by
 obtain ⟨hp, hc⟩ := may_cases a h
 obtain ⟨fn, addr, count, to, bits, regs⟩ := a
 simp only at hc hp
 rcases hc with ⟨e, hn, rfl, rfl, rfl⟩ | ⟨e, hn, rfl, rfl, rfl⟩ | ⟨rfl, rfl, ⟨b, rfl⟩, rfl, rfl⟩ | ⟨rfl, rfl, rfl, ⟨r, rfl⟩, rfl⟩ | ⟨rfl, rfl, hn, rfl, rfl⟩ | ⟨rfl, rfl, rfl, hn, rfl⟩ | ⟨rfl, hn, rfl, hm⟩
 ·have hb : bytesP ⟨fn, addr, count, 0, [], []⟩ = [fn, addr / 256, addr % 256, count / 256, count % 256] := by
   unfold bytesP
   simp only
   rw [if_neg (by omega), if_neg (by omega), if_neg (by omega), if_neg (by omega), if_neg (by omega)]
   rfl
  rw [hb]
  have hl : limP fn = some (2000, 0, 0) := by unfold limP; rw [if_pos e]
  refine ⟨read_of _ _ (by simp) (by simp) (by rw [List.getD_cons_zero, hl]; rfl) ?_ h, by simp, by simp, rfl, by dsimp only; omega, by dsimp only; omega⟩
  unfold parseP
  simp only [word1, word3, List.getD_cons_zero]
  rw [if_neg (by simp), if_neg (by omega), if_neg (by omega), if_neg (by omega), if_neg (by omega), if_neg (by omega), hl]
  simp only
  rw [if_pos ⟨rfl, by simp [fitP]; omega⟩]
 ·have hb : bytesP ⟨fn, addr, count, 0, [], []⟩ = [fn, addr / 256, addr % 256, count / 256, count % 256] := by
   unfold bytesP
   simp only
   rw [if_neg (by omega), if_neg (by omega), if_neg (by omega), if_neg (by omega), if_neg (by omega)]
   rfl
  rw [hb]
  have hl : limP fn = some (125, 0, 0) := by unfold limP; rw [if_neg (by omega), if_pos e]
  refine ⟨read_of _ _ (by simp) (by simp) (by rw [List.getD_cons_zero, hl]; rfl) ?_ h, by simp, by simp, rfl, by dsimp only; omega, by dsimp only; omega⟩
  unfold parseP
  simp only [word1, word3, List.getD_cons_zero]
  rw [if_neg (by simp), if_neg (by omega), if_neg (by omega), if_neg (by omega), if_neg (by omega), if_neg (by omega), hl]
  simp only
  rw [if_pos ⟨rfl, by simp [fitP]; omega⟩]
 ·have hb : bytesP ⟨5, addr, 0, 0, [b], []⟩ = [5, addr / 256, addr % 256, (if b then 65280 else 0 : Int) / 256, (if b then 65280 else 0 : Int) % 256] := by
   cases b <;> rfl
  rw [hb]
  refine ⟨read_of _ _ (by simp) (by simp) rfl ?_ h, by simp, by simp, rfl, by dsimp only; omega, by dsimp only; omega⟩
  unfold parseP
  simp only [word1, word3, List.getD_cons_zero]
  rw [if_neg (by simp), if_pos (by trivial), if_pos ⟨rfl, by cases b <;> simp⟩]
  cases b <;> simp
 ·have hb : bytesP ⟨6, addr, 0, 0, [], [r]⟩ = [6, addr / 256, addr % 256, r / 256, r % 256] := rfl
  rw [hb]
  refine ⟨read_of _ _ (by simp) (by simp) rfl ?_ h, by simp, by simp, rfl, by dsimp only; omega, by dsimp only; omega⟩
  unfold parseP
  simp only [word1, word3, List.getD_cons_zero]
  rw [if_neg (by simp), if_neg (by omega), if_pos (by trivial), if_pos (by trivial)]
 ·have hb : bytesP ⟨15, addr, 0, 0, bits, []⟩ = 15 :: addr / 256 :: addr % 256 :: (bits.length : Int) / 256 :: (bits.length : Int) % 256 :: ((packN bits).length : Int) :: packN bits := rfl
  rw [hb]
  have hpl := packN_len bits
  refine ⟨read_of _ _ (by simp) (by simp only [List.length_cons]; omega) rfl ?_ h, by simp, by simp only [List.length_cons]; omega, rfl, by dsimp only; omega, by dsimp only; omega⟩
  unfold parseP
  simp only [word1, word3, List.getD_cons_zero, List.getD_cons_succ, List.drop_succ_cons, List.drop_zero, List.length_cons]
  rw [if_neg (by omega), if_neg (by omega), if_neg (by omega), if_pos (by trivial), if_pos ⟨by omega, by omega, by first | trivial | omega, by omega⟩, Int.toNat_natCast, unpack_pack]
 ·have hb : bytesP ⟨16, addr, 0, 0, [], regs⟩ = 16 :: addr / 256 :: addr % 256 :: (regs.length : Int) / 256 :: (regs.length : Int) % 256 :: (2 * regs.length : Int) :: twosI regs := rfl
  rw [hb]
  have hpl := twosI_len regs
  refine ⟨read_of _ _ (by simp) (by simp only [List.length_cons]; omega) rfl ?_ h, by simp, by simp only [List.length_cons]; omega, rfl, by dsimp only; omega, by dsimp only; omega⟩
  unfold parseP
  simp only [word1, word3, List.getD_cons_zero, List.getD_cons_succ, List.drop_succ_cons, List.drop_zero, List.length_cons]
  rw [if_neg (by omega), if_neg (by omega), if_neg (by omega), if_neg (by omega), if_pos (by trivial), if_pos ⟨by omega, by omega, by first | trivial | omega, by omega⟩, words_twos]
 ·have hb : bytesP ⟨23, addr, count, to, [], regs⟩ = 23 :: addr / 256 :: addr % 256 :: count / 256 :: count % 256 :: to / 256 :: to % 256 :: (regs.length : Int) / 256 :: (regs.length : Int) % 256 :: (2 * regs.length : Int) :: twosI regs := rfl
  rw [hb]
  have hpl := twosI_len regs
  refine ⟨read_of _ _ (by simp) (by simp only [List.length_cons]; omega) rfl ?_ h, by simp, by simp only [List.length_cons]; omega, rfl, by dsimp only; omega, by dsimp only; omega⟩
  unfold parseP
  simp only [word1, word3, word5, word7, List.getD_cons_zero, List.getD_cons_succ, List.drop_succ_cons, List.drop_zero, List.length_cons]
  rw [if_neg (by omega), if_neg (by omega), if_neg (by omega), if_neg (by omega), if_neg (by omega), if_pos (by trivial), if_pos ⟨by omega, by omega, by omega, by first | trivial | omega, by omega⟩, words_twos]
theorem infoU8 : (Tryd.prog.info? 5).map (fun i => (i.zero, i.size, i.bytes)) = some (some (.int .u8 0), 1, 1) := by kernel_rfl
theorem RdB.at_ {w : World} {B : Nat} {A : Option Addr} {xs : List Bool} {i : Nat} (h : RdB w B A xs) (hi : i < xs.length) : ∃ g off x, A = some ⟨g, off, none⟩ ∧ g < B ∧ xs[i]? = some x ∧ w.cell? ⟨g, off + i, none⟩ = some (.bool x) := by
 obtain ⟨g, off, e, hb, hc⟩ := h (by omega)
 exact ⟨g, off, xs[i], e, hb, List.getElem?_eq_getElem hi, hc i _ (List.getElem?_eq_getElem hi)⟩
attribute [local go_sem] Oper.semAt_some
def bitV (b : List Int) (k : Nat) : Array Value := #[.int .i64 k, .bool (bitAt b k)]
theorem and1_all : ∀ y : Fin 256, (Go.bits BinOp.and IntKind.u8 (y.1 : Int) 1 == 1) = decide ((y.1 : Int) % 2 = 1) := by decide +kernel
theorem and1 (y : Int) (h0 : 0 ≤ y) (h : y < 256) : (Go.bits BinOp.and IntKind.u8 y 1 == 1) = decide (y % 2 = 1) := by
 obtain ⟨n, rfl⟩ := Int.eq_ofNat_of_zero_le h0
 exact and1_all ⟨n, by omega⟩
theorem shr_small (x : Int) (r : Nat) (h0 : 0 ≤ x) (h : x < 256) : 0 ≤ x / (2 : Int) ^ r ∧ x / (2 : Int) ^ r < 256 := by
 have hp : (0 : Int) < 2 ^ r := Int.pow_pos (by omega)
 exact ⟨Int.ediv_nonneg h0 (by omega), Int.lt_of_le_of_lt (Int.ediv_le_self _ h0) h⟩
theorem bits1_in (F : Fence) (n : Nat) (hF : F.fn 136) (hro : F.round = none) (hn : 1 ≤ n) (l Bb n₀ n₁ N : Nat) (A : Option Addr) (nb cb : Nat) (b : List Int) (hb : b.length = nb) (hbs : ∀ x ∈ b, 0 ≤ x ∧ x < 256) (hN : N ≤ 1000000) (J Jx : Nat → World → Prop)
  (hL : ∀ s X, J s X → s ≤ N)
  (hY : ∀ k X, J k X → YieldAt F (n - 1) Tryd.prog l (bitV b k) X fun e X' =>
   (e = .returned (.bool true) ∧ J (k + 1) X' ∧ Kx n₀ n₁ X X') ∨ (e = .returned (.bool false) ∧ Jx (k + 1) X'))
  (W : World) (hBb : Bb < n₁) (hBb' : Bb ≠ n₀) (hc : W.cell? ⟨Bb, 0, none⟩ = some (.slice A nb cb)) (hR : RdI W n₀ .u8 A b) (h0 : J 0 W) :
  CallsIn F n Tryd.prog 136 #[.func (.yield l) #[] #[], .pointer (some ⟨Bb, 0, none⟩)] W fun e W' => (∃ v, e = .returned v) ∧ ∃ k, Jx k W' := by
 have HB := Lib.hid hb
 clear hb
 refine callsIn_of_wp Tryd.func136 rfl hF ?_ hro
 simp only [Tryd.ntmps136, List.size_toArray, List.length_cons, List.length_nil, Nat.reduceAdd, Nat.reduceSub, Array.replicate_succ, Array.replicate_zero, List.push_toArray, List.append_toArray, List.nil_append, List.cons_append]
 gi_wp2
 gi_loopw [3] (fun i wr => ∃ k : Nat, i = .int .i64 k ∧ J k wr ∧ Kx n₀ n₁ W wr) (fun i _ => N + 1 - (intOf i).toNat)
 case atStart => exact ⟨0, rfl, h0, Kx.refl _ _ _⟩
 case round =>
  obtain ⟨k, rfl, hJk, hnx⟩ := hrel
  have hkN := hL _ _ hJk
  have c1 := (hnx.cell (p := ⟨Bb, 0, none⟩) hBb' hBb).trans hc
  obtain ⟨q, r, hkq, hr8⟩ : ∃ q r : Nat, k = 8 * q + r ∧ r < 8 := ⟨k / 8, k % 8, by omega, by omega⟩
  have HQ := Lib.hid hkq
  have q1 : (k : Int) / 8 = (q : Int) := by omega
  have q2 : (k : Int).tdiv 8 = (q : Int) := by rw [Int.tdiv_eq_ediv_of_nonneg (by omega)]; exact q1
  have r1 : (k : Int) % 8 = (r : Int) := by omega
  have r2 : (k : Int).tmod 8 = (r : Int) := by rw [Int.tmod_eq_emod_of_nonneg (by omega)]; exact r1
  obtain ⟨fn, tmps, assign, body, hy, hRR⟩ := hY k wr hJk
  unfold bitV at hy
  by_cases hlt : q < nb
  ·obtain ⟨g, off, x, rfl, hg, hx, hc⟩ : ∃ g off x, A = some ⟨g, off, none⟩ ∧ g < n₀ ∧ b[q]? = some x ∧ wr.cell? ⟨g, off + q, none⟩ = some (.int .u8 x) := by
    obtain ⟨g, off, e, h1, h2⟩ := (hR.below hnx.1) (by rw [HB.out]; omega)
    exact ⟨g, off, _, e, h1, List.getElem?_eq_getElem (by rw [HB.out]; exact hlt), h2 q _ (List.getElem?_eq_getElem (by rw [HB.out]; exact hlt))⟩
   have hxb := hbs x (List.mem_of_getElem? hx)
   have ha := and1 (x / 2 ^ r) (shr_small x r hxb.1 hxb.2).1 (shr_small x r hxb.1 hxb.2).2
   rw [bitAt_in b k x (by rw [show k / 8 = q by omega]; exact hx), show k % 8 = r by omega] at hy
   clear hkq hbs
   rw [← ha] at hy
   clear ha
   obtain ⟨z, hz⟩ : ∃ z, (Go.bits BinOp.and IntKind.u8 (x / 2 ^ r) 1 == 1) = z := ⟨_, rfl⟩
   rw [hz] at hy
   gi_wp2
   refine hRR.mono ?_
   rintro e W3 (⟨rfl, hJ3, hk3⟩ | ⟨rfl, hJx3⟩)
   ·gi_wp2
    exact ⟨⟨k + 1, by go_num, hJ3, hnx.trans hk3⟩, by simp [intOf]; omega⟩
   ·gi_wp2
    refine bodyPost_ret (results_none rfl _ _ _) rfl ?_
    exact ⟨⟨_, rfl⟩, _, hJx3⟩
  ·rw [bitAt_out b k (by rw [HB.out]; omega)] at hy
   clear hkq hbs
   gi_wp2
   refine hRR.mono ?_
   rintro e W3 (⟨rfl, hJ3, hk3⟩ | ⟨rfl, hJx3⟩)
   ·gi_wp2
    exact ⟨⟨k + 1, by go_num, hJ3, hnx.trans hk3⟩, by simp [intOf]; omega⟩
   ·gi_wp2
    refine bodyPost_ret (results_none rfl _ _ _) rfl ?_
    exact ⟨⟨_, rfl⟩, _, hJx3⟩
theorem bits_seq (F : Fence) (n : Nat) (hF : F.fn 136) (hro : F.round = none) (hn : 1 ≤ n) (Bb n₀ n₁ N : Nat) (A : Option Addr) (nb cb : Nat) (b : List Int) (hb : b.length = nb) (hbs : ∀ x ∈ b, 0 ≤ x ∧ x < 256) (hN : N ≤ 1000000) (w : World)
  (hBb : Bb < n₁) (hBb' : Bb ≠ n₀) (h0n : n₀ ≤ n₁) (h1n : n₁ ≤ w.heap.size) (hc : w.cell? ⟨Bb, 0, none⟩ = some (.slice A nb cb)) (hR : RdI w n₀ .u8 A b) :
  SeqW F n Tryd.prog 136 #[.pointer (some ⟨Bb, 0, none⟩)] (bitV b) (Kx n₀ n₁) (fun _ _ => False) (fun k => k ≤ N) (fun _ => True) (fun _ => False) (fun _ => True) w := by
 intro l J Jx W hW _ _ hL hY h0
 refine (bits1_in F n hF hro hn l Bb n₀ n₁ N A nb cb b hb hbs hN J Jx hL (fun k X hj => hY k X trivial hj) W hBb hBb' ((hW.cell (p := ⟨Bb, 0, none⟩) (by simp; omega)).trans hc) (hR.below (hW.mono (by omega))) h0).mono ?_
 rintro e W' ⟨hv, k, hk⟩
 exact ⟨hv, .inr ⟨k, trivial, hk⟩⟩
theorem bits_in (F : Fence) (n : Nat) (hF : F.fn 105) (hro : F.round = none) (A : Option Addr) (len cap : Nat) (w : World) :
  CallsIn F n Tryd.prog 105 #[.slice A len cap] w fun e w' => e = .returned (.func (.func 136) #[] #[.pointer (some ⟨w.heap.size, 0, none⟩)]) ∧ w' = w.alloc (.cells #[.slice A len cap] 22) := by
 refine callsIn_of_wp Tryd.func105 rfl hF ?_ hro
 simp only [Tryd.ntmps105, List.size_toArray, List.length_cons, List.length_nil, Nat.reduceAdd, Nat.reduceSub, Array.replicate_succ, Array.replicate_zero, List.push_toArray, List.append_toArray, List.nil_append, List.cons_append]
 gi_wp2
 go_ret
 exact ⟨rfl, rfl⟩
open Go.RowKit Go.Shelf
theorem infoBool : (Tryd.prog.info? 4).map (fun i => (i.zero, i.size, i.bytes)) = some (some (.bool false), 1, 1) := by kernel_rfl
theorem unpackP_snoc (b : List Int) (k : Nat) : unpackP b (k + 1) = unpackP b k ++ [bitAt b k] := by simp [unpackP, List.range_succ]
def unpackV (b : List Int) (n : Int) : List Bool := if 100000 < n then [] else unpackP b n.toNat
def UnI (w : World) (A : Option Addr) (nb cb : Nat) (b : List Int) (N : Nat) (n : Int) (k : Nat) (W : World) : Prop :=
 (∃ v, Boxed W (w.heap.size + 1) 57 v ∧ W.ownsRow (w.heap.size + 3) 4 1 v k ((unpackP b k).map Value.bool) ∧ k ≤ N) ∧ (Held W w.heap.size 3 #[.int .i64 n] ∧ Held W (w.heap.size + 2) 22 #[.slice A nb cb]) ∧ Below w.heap.size w W
theorem UnI.own {w : World} {A : Option Addr} {nb cb : Nat} {b : List Int} {N : Nat} {n : Int} (B : Nat) (hB : w.heap.size ≤ B) : OwnFrom B (UnI w A nb cb b N n) :=
 OwnFrom.and (Own.from (holdsRow_own (w.heap.size + 3) (w.heap.size + 1) 57 4 1 (fun k => k) (fun k => (unpackP b k).map Value.bool) (fun k _ => k ≤ N)) _) (OwnFrom.and (OwnFrom.and held_ownFrom held_ownFrom) (ownFrom_below (Nat.le_refl _) hB))
theorem boxed_appended_kx {W w0 w1 : World} {n₁ B : Nat} {t e : TypeId} {size : Nat} {v v' : Value} {k m : Nat} {xs ys : List Value}
  (hv : Boxed w0 B t v) (hte : t ≠ e) (hrow : w0.ownsRow n₁ e size v k xs) (hn₁ : n₁ ≤ w0.heap.size) (hB : B < n₁) (h0 : KeepsOthers W w0) (hb0 : Below n₁ W w0)
  (hown' : w1.ownsRow n₁ e size v' m ys) (hgrow : w0.grownBy w1 v.ownBlock) :
  Boxed w1 B t v ∧ Boxed (w1.setCell ⟨B, 0, none⟩ v') B t v' ∧ (w1.setCell ⟨B, 0, none⟩ v').ownsRow n₁ e size v' m ys ∧ KeepsOthers W (w1.setCell ⟨B, 0, none⟩ v') ∧ Kx B n₁ W (w1.setCell ⟨B, 0, none⟩ v') := by
 have hv1 : Boxed w1 B t v := hv.kept hgrow (hv.not_row hte hrow)
 refine ⟨hv1, hv1.set v', hown'.kept (grownBy_setCell' w1 B v') (.inr (hv1.not_row hte hown').symm), ?_, ?_⟩
 ·refine (h0.trans (KeepsOthers.of_grownBy hgrow fun j o ej hj => ?_)).trans (KeepsOthers.setCell _ _ _)
  rcases hrow.2 with ⟨rfl, _⟩ | ⟨g, cap, cur, rfl, _, hgb, _⟩
  ·simp [Value.ownBlock] at ej
  ·obtain rfl : g = j := by simpa [Value.ownBlock] using ej
   rw [hgb] at hj; cases hj; rfl
 ·refine (Kx.of_below (hb0.grown hgrow hn₁ fun j ej => ?_) (by omega)).set 0 v'
  rcases hrow.2 with ⟨rfl, _⟩ | ⟨g, cap, cur, rfl, hb, _, _⟩
  ·simp [Value.ownBlock] at ej
  ·obtain rfl : g = j := by simpa [Value.ownBlock] using ej
   exact hb
theorem unpack_in (A : Option Addr) (nb cb : Nat) (b : List Int) (hb : b.length = nb) (hbs : ∀ x ∈ b, 0 ≤ x ∧ x < 256) (n : Int) (w : World) (hR : RdI w w.heap.size .u8 A b) :
  CallsIn Fence.wide 5 Tryd.prog 68 #[.slice A nb cb, .int .i64 n] w fun e W' => (∃ A' m c', e = .returned (.slice A' m c') ∧ SlB W' W'.heap.size A' m c' (unpackV b n)) ∧ Below w.heap.size w W' := by
 have h2F : Fence.wide.fn 105 := trivial
 have h3F : Fence.wide.fn 136 := trivial
 have hro : Fence.wide.round = none := rfl
 have HR := Lib.hid hR
 have HB := Lib.hid hb
 clear hR hb
 obtain ⟨i0, hi, hz0, hz1, hz2⟩ := info_parts infoBool
 refine callsIn_of_wp_marks Tryd.func68 rfl trivial ?_ rfl
 simp only [Tryd.ntmps68, List.size_toArray, List.length_cons, List.length_nil, Nat.reduceAdd, Nat.reduceSub, Array.replicate_succ, Array.replicate_zero, List.push_toArray, List.append_toArray, List.nil_append, List.cons_append]
 by_cases hbig : 100000 < n
 ·gi_wp2
  refine wpIn_scope ?_
  gi_wp2
  refine ⟨_, results_tmp rfl _ _ _, ?_⟩
  refine ⟨⟨none, 0, 0, rfl, ?_⟩, (Below.refl _ w).alloc (Nat.le_refl _) _⟩
  unfold unpackV
  rw [if_pos hbig]
  exact SlB.nil _ _
 ·gi_wp2
  refine wpIn_scope ?_
  gi_wp2
  refine wpIn_label ?_
  gi_wp2_with (gi_at_call 105; refine (bits_in Fence.wide 4 h2F hro A nb cb _).mono ?_; rintro e w' ⟨rfl, rfl⟩)
  obtain ⟨W0, hW0⟩ : ∃ W0, ((w.alloc (.cells #[.int .i64 n] 3)).alloc (.cells #[.slice none 0 0] 57)).alloc (.cells #[.slice A nb cb] 22) = W0 := ⟨_, rfl⟩
  rw [hW0]
  have hS0 : W0.heap.size = w.heap.size + 3 := by rw [← hW0]; simp
  have bN : Boxed W0 w.heap.size 3 (.int .i64 n) := by rw [← hW0]; exact ((Boxed.new w _ _).alloc _).alloc _
  have bO : Boxed W0 (w.heap.size + 1) 57 (.slice none 0 0) := by rw [← hW0]; have := Boxed.new (w.alloc (.cells #[.int .i64 n] 3)) 57 (.slice none 0 0); rw [World.size_alloc] at this; exact this.alloc _
  have bB : Boxed W0 (w.heap.size + 2) 22 (.slice A nb cb) := by rw [← hW0]; have := Boxed.new ((w.alloc (.cells #[.int .i64 n] 3)).alloc (.cells #[.slice none 0 0] 57)) 22 (.slice A nb cb); simpa using this
  have hB0 : Below w.heap.size w W0 := by rw [← hW0]; exact ((((Below.refl _ w).alloc (Nat.le_refl _) _).alloc (by simp) _).alloc (by simp; omega) _)
  clear hW0
  refine wpIn_range_w hro (by omega) (gf := 136) (lb := #[.pointer (some ⟨w.heap.size + 2, 0, none⟩)]) rfl h3F (enters_of Tryd.func136 (by kernel_rfl) rfl)
   (bits_seq Fence.wide 4 h3F hro (by omega) (w.heap.size + 2) (w.heap.size + 1) (w.heap.size + 3) n.toNat A nb cb b HB.out hbs (by omega) W0 (by omega) (by omega) (by omega) (by omega) bB.cell ((HR.out.below hB0).more (by omega)))
   (fun h k => h.trans k) (fun W l o o' hl h1 h2 h3 => ⟨belowK_b (w := W0) (by omega) W l o o' hl h1 h2 h3, fun j _ hj => World.putObj_heap_other (by omega)⟩)
   (fun _ _ h => h.elim) (fun _ => rfl)
   (UnI w A nb cb b n.toNat n)
   (fun c k W => c = .exit 0 ∧ ∃ m, k = m + 1 ∧ m = n.toNat ∧ UnI w A nb cb b n.toNat n m W)
   ?own ?ownx (fun _ _ _ h => h.elim) (fun _ _ _ _ h => h.elim) (fun _ _ h => by obtain ⟨⟨_, _, _, h⟩, _⟩ := h; exact h)
   ⟨⟨_, bO, World.ownsRow_nil _ _ _ _, by omega⟩, ⟨bN, bB⟩, hB0⟩
   (fun k => { tmps := #[.slice A nb cb, .int .i64 n, undef, .pointer (some ⟨w.heap.size, 0, none⟩), .slice none 0 0, .pointer (some ⟨w.heap.size + 1, 0, none⟩), .int .i64 k, .bool (bitAt b k), .int .i64 n, .bool (decide (100000 < n)), .slice A nb cb,
    .func (.func 136) #[] #[.pointer (some ⟨w.heap.size + 2, 0, none⟩)], .int .i64 k, .bool (bitAt b k), undef, undef, undef, undef, undef, undef, undef, undef], defers := [] })
   ?assign ?body ?done ?stop
  case own => exact UnI.own _ (by omega)
  case ownx =>
   exact fun c k X Y row ⟨h0, m, h1, h2, h3⟩ hg hr => ⟨h0, m, h1, h2, UnI.own (w := w) _ (by omega) m X Y row h3 hg hr⟩
  case assign =>
   intro l k W K hK
   unfold bitV
   gi_wp2
   exact hK
  case body =>
   intro l k W hl hr hT hI
   obtain ⟨⟨v, hv, hrow, hkN⟩, ⟨hbN, hbB⟩, hB⟩ := hI
   have hcN : W.cell? ⟨w.heap.size, 0, none⟩ = some (.int .i64 n) := hbN.cell 0
   have hcv := hv.cell
   have hsz : w.heap.size + 3 ≤ W.heap.size := hbB.lt
   have HSN := Lib.hid (unpackP_snoc b k)
   by_cases hlt : k < n.toNat
   ·gi_wp2_with (gi_at_builtin; refine wpListIn_append_own _ rfl _ _ 57 rfl (w.heap.size + 3) 4 i0 (.bool false) 1 1 Tryd.underlying57 hi hz0 hz1 hz2 rfl (by decide) _ _ _ rfl (hrow.alloc _) ⟨W.heap.size, 0, none⟩ 1 1 [.bool (bitAt b k)] rfl rfl (World.news_of_block (cs := #[.bool (bitAt b k)]) (t := 4) (fr := (0, 0)) (heap_alloc_new W _)) (by simp [Value.oneCell']) (by unfold maxLen; omega) (by omega) (by simp; omega) ?_; intro v' w1 hown' hgrow _; obtain ⟨g', cap', rfl⟩ := ownsRow_succ hown'; obtain ⟨hv1, hv2, hr2, hk2, hx2⟩ := boxed_appended_kx (W := W) (w0 := W.alloc _) (hv.alloc _) (by decide) (hrow.alloc _) (by simp; omega) (by omega) (KeepsOthers.alloc _ _) ((Below.refl _ _).alloc hsz _) hown' hgrow; have hc1 := hv1.cell; have hf1 := hv1.frozen)
    refine ⟨hk2.from _, hx2, ⟨_, hv2, ?_, by omega⟩, ⟨(hx2.2 _ (by omega) (by omega)).trans hbN, (hx2.2 _ (by omega) (by omega)).trans hbB⟩, hB.trans (hx2.1.mono (by omega))⟩
    rw [HSN.out, List.map_append]
    exact hr2
   ·gi_wp2
    exact ⟨KeepsFrom.refl _ _, rfl, k, rfl, by omega, ⟨_, hv, hrow, hkN⟩, ⟨hbN, hbB⟩, hB⟩
  case done => exact fun D k W _ h _ _ => h.elim
  case stop =>
   intro D c k W hD _ hI hK
   obtain ⟨rfl, m, rfl, rfl, hI2⟩ := hI
   obtain ⟨⟨v, hv, _⟩, _⟩ := id hI2
   have hcv := hv.cell
   have hvc : (W.putObj D (.deferred none)).cell? ⟨w.heap.size + 1, 0, none⟩ = some v := (World.cell?_of_block (World.putObj_heap_other (by simp; omega))).trans hcv
   gi_wp2
   refine ⟨by simp, .inl ⟨_, _, rfl, run_takeDeferred hK, ?_⟩⟩
   obtain ⟨⟨v', hv', hrow', _⟩, _, hB'⟩ := (UnI.own (w := w) W0.heap.size (by omega)).putObj (.deferred none) hI2 hD hK rfl
   obtain rfl : v' = v := by have := hv'.cell; rw [hvc] at this; injection this with this; exact this.symm
   obtain ⟨A', c', rfl, hs⟩ := SlB.of_own hrow'
   refine ⟨_, results_tmp rfl _ _ _, ⟨A', _, c', rfl, ?_⟩, hB'⟩
   unfold unpackV
   rw [if_neg (by omega)]
   exact hs
theorem or128_all : ∀ y : Fin 256, Go.bits BinOp.or IntKind.u8 (y.1 : Int) 128 = 128 + (y.1 : Int) % 128 := by decide +kernel
theorem or128 (y : Int) (h0 : 0 ≤ y) (h : y < 256) : Go.bits BinOp.or IntKind.u8 y 128 = 128 + y % 128 := by
 obtain ⟨n, rfl⟩ := Int.eq_ofNat_of_zero_le h0
 exact or128_all ⟨n, by omega⟩
theorem refuse_any (fn code : Int) (w : World) :
  Calls Tryd.prog 53 #[.int .i64 fn, .int .i64 code] w fun e w' => e = .returned (.slice (some ⟨w.heap.size, 0, none⟩) 2 2) ∧ w' = w.alloc (.cells #[.int .u8 (128 + fn % 128), .int .u8 (code % 256)] 5) := by
 have h1 := or128 (fn % 256) (by omega) (by omega)
 have h2 : fn % 256 % 128 = fn % 128 := by omega
 rw [h2] at h1
 go_in
 go_wp2
 go_ret
 exact ⟨rfl, rfl⟩
theorem bit_any (A : Option Addr) (nb cb : Nat) (b : List Int) (hb : b.length = nb) (hbs : ∀ x ∈ b, 0 ≤ x ∧ x < 256) (k : Nat) (hk : k ≤ 1000000) (w : World) (hR : RdI w w.heap.size .u8 A b) :
  Calls Tryd.prog 152 #[.slice A nb cb, .int .i64 k] w fun e w' => e = .returned (.bool (bitAt b k)) ∧ w = w' := by
 obtain ⟨q, r, hkq, hr8⟩ : ∃ q r : Nat, k = 8 * q + r ∧ r < 8 := ⟨k / 8, k % 8, by omega, by omega⟩
 have HQ := Lib.hid hkq
 have q1 : (k : Int) / 8 = (q : Int) := by omega
 have q2 : (k : Int).tdiv 8 = (q : Int) := by rw [Int.tdiv_eq_ediv_of_nonneg (by omega)]; exact q1
 have r1 : (k : Int) % 8 = (r : Int) := by omega
 have r2 : (k : Int).tmod 8 = (r : Int) := by rw [Int.tmod_eq_emod_of_nonneg (by omega)]; exact r1
 by_cases hlt : q < nb
 ·obtain ⟨g, off, x, rfl, hx, hc⟩ : ∃ g off x, A = some ⟨g, off, none⟩ ∧ b[q]? = some x ∧ w.cell? ⟨g, off + q, none⟩ = some (.int .u8 x) := by
   obtain ⟨g, off, e, h1, h2⟩ := hR (by omega)
   exact ⟨g, off, _, e, List.getElem?_eq_getElem (by omega), h2 q _ (List.getElem?_eq_getElem (by omega))⟩
  have hxb := hbs x (List.mem_of_getElem? hx)
  have HE := Lib.hid (show bitAt b k = decide (x / (2 : Int) ^ r % 2 = 1) by rw [bitAt_in b k x (by rw [show k / 8 = q by omega]; exact hx), show k % 8 = r by omega])
  clear hkq hbs hb hx hR
  go_in
  go_wp2
  go_loopw [5, 6] (fun c i wr => ∃ m : Nat, m ≤ r ∧ i = .int .i64 m ∧ c = .int .u8 (x / (2 : Int) ^ m) ∧ wr = w) (fun _ i _ => r - (intOf i).toNat)
  case atStart => exact ⟨0, by omega, rfl, by simp, rfl⟩
  case round =>
   obtain ⟨m, hm, rfl, rfl, rfl⟩ := hrel
   have hs := shr_small x m hxb.1 hxb.2
   have HS := Lib.hid (show x / (2 : Int) ^ (m + 1) = x / (2 : Int) ^ m / 2 by rw [Int.pow_succ, Int.ediv_ediv_of_nonneg (Int.pow_nonneg (by omega))])
   by_cases hmr : m < r
   ·obtain ⟨y, hy⟩ : ∃ y, x / (2 : Int) ^ m = y := ⟨_, rfl⟩
    rw [hy] at hs HS ⊢
    have t2 : y.tdiv 2 = y / 2 := by rw [Int.tdiv_eq_ediv_of_nonneg hs.1]
    go_wp2
    exact ⟨⟨m + 1, by omega, by go_num, by rw [HS.out], trivial⟩, by simp [intOf]; omega⟩
   ·obtain rfl : m = r := by omega
    go_wp2
    go_ret
    refine ⟨?_, rfl⟩
    rw [HE.out]
    congr 2
 ·have HE := Lib.hid (bitAt_out b k (by omega))
  clear hkq hbs hb hR
  go_in
  go_wp2
  go_ret
  exact ⟨by rw [HE.out]; rfl, rfl⟩
theorem take_eq_next {α : Type} {xs ys : List α} {k : Nat} {x y : α} (h : xs.take k = ys.take k) (hx : xs[k]? = some x) (hy : ys[k]? = some y) (e : x = y) : xs.take (k + 1) = ys.take (k + 1) := by
 rw [List.take_add_one, List.take_add_one, h, hx, hy, e]
def AskAt (w : World) (v : Value) (p : AskP) : Prop := ∃ Ab nb cb Ar nr cr, v = .agg #[.int .i64 p.fn, .int .i64 p.addr, .int .i64 p.count, .int .i64 p.to, .slice Ab nb cb, .slice Ar nr cr] ∧ SlB w w.heap.size Ab nb cb p.bits ∧ SlI w w.heap.size .u16 Ar nr cr p.regs
def RepAt (w : World) (v : Value) (p : RepP) : Prop := ∃ Ab nb cb Ar nr cr, v = .agg #[.int .i64 p.fn, .int .i64 p.code, .slice Ab nb cb, .slice Ar nr cr] ∧ SlB w w.heap.size Ab nb cb p.bits ∧ SlI w w.heap.size .u16 Ar nr cr p.regs
theorem AskAt.up {w w' : World} {v : Value} {p : AskP} (h : AskAt w v p) (hb : Below w.heap.size w w') : AskAt w' v p := by
 obtain ⟨A, n, c, R, m, d, rfl, hA, hR⟩ := h
 exact ⟨A, n, c, R, m, d, rfl, hA.up hb, hR.up hb⟩
theorem RepAt.up {w w' : World} {v : Value} {p : RepP} (h : RepAt w v p) (hb : Below w.heap.size w w') : RepAt w' v p := by
 obtain ⟨A, n, c, R, m, d, rfl, hA, hR⟩ := h
 exact ⟨A, n, c, R, m, d, rfl, hA.up hb, hR.up hb⟩
def packs (l : List Bool) (j : Nat) : List Int := (List.range j).map (byteOf l)
theorem packs_len (l : List Bool) (j : Nat) : (packs l j).length = j := by simp [packs]
theorem packs_succ (l : List Bool) (j : Nat) : packs l (j + 1) = packs l j ++ [byteOf l j] := by simp [packs, List.range_succ]
theorem bsum_take (u : List Bool) (m : Nat) (x : Bool) (h : u[m]? = some x) : bsum (u.take (m + 1)) = bsum (u.take m) + if x then (2 : Int) ^ m else 0 := by
 rw [List.take_add_one, h, Option.toList_some, bsum_append]
 have : (u.take m).length = m := by
  have := (List.getElem?_eq_some_iff.1 h).1
  rw [List.length_take]; omega
 rw [this]
theorem refpack_any (A : Option Addr) (nb cb : Nat) (xs : List Bool) (hreach : nb ≤ 1000000) (w : World) (hA : SlB w w.heap.size A nb cb xs) :
  Calls Tryd.prog 118 #[.slice A nb cb] w fun e w' => ∃ v, e = .returned v ∧ w'.ownsRow w.heap.size 5 1 v (packN xs).length ((packN xs).map (.int .u8)) ∧ Below w.heap.size w w' := by
 obtain ⟨hl, hcap, _, _, hR⟩ := hA
 obtain ⟨i0, hi, hz0, hz1, hz2⟩ := info_parts infoU8
 have HL := Lib.hid hl
 have HR := Lib.hid hR
 clear hl hR
 go_in
 go_wp2
 go_loopw [3, 4, 5, 6, 7] (fun u i c p k wr => ∃ j : Nat, 8 * j ≤ nb + 7 ∧ i = .int .i64 (8 * j : Nat) ∧ wr.ownsRow w.heap.size 5 1 u j ((packs xs j).map (.int .u8)) ∧ Below w.heap.size w wr) (fun _ i _ _ _ _ => nb + 8 - (intOf i).toNat)
 case atStart => exact ⟨0, by omega, rfl, World.ownsRow_nil _ _ _ _, Below.refl _ _⟩
 case round =>
  obtain ⟨j, hj, rfl, hown, hb⟩ := hrel
  have HPL := Lib.hid (packs_len xs j)
  have HPS := Lib.hid (packs_succ xs j)
  by_cases hlt : 8 * j < nb
  ·obtain ⟨L, hL⟩ : ∃ L, (xs.drop (8 * j)).take 8 = L := ⟨_, rfl⟩
   have hLn : L.length = min 8 (nb - 8 * j) := by rw [← hL, List.length_take, List.length_drop, HL.out]
   have HLL := Lib.hid hL
   have HLN := Lib.hid hLn
   clear hL hLn
   go_wp2
   go_loopw [5, 6, 7] (fun c p k wr' => ∃ m : Nat, m ≤ L.length ∧ c = .int .i64 (bsum (L.take m)) ∧ p = .int .i64 (2 ^ m) ∧ k = .int .i64 (8 * j + m : Nat) ∧ wr'.ownsRow w.heap.size 5 1 u3 j ((packs xs j).map (.int .u8)) ∧ Below w.heap.size w wr') (fun _ _ k _ => 8 * j + 8 - (intOf k).toNat)
   case atStart => exact ⟨0, by omega, rfl, rfl, rfl, hown, hb⟩
   case round =>
    clear hown hb
    obtain ⟨m, hm, rfl, rfl, rfl, hown, hb⟩ := hrel
    have hm8 : m ≤ 8 := by have := HLN.out; omega
    have HM8 := Lib.hid hm8
    by_cases hml : m < L.length
    ·have h1 : m < 8 := by have := HLN.out; omega
     have h2 : 8 * j + m < nb := by have := HLN.out; omega
     obtain ⟨g, off, x, rfl, hg, hx, hc⟩ := (HR.out.below hb).at_ (i := 8 * j + m) (by rw [HL.out]; exact h2)
     have hLx : L[m]? = some x := by
      rw [← HLL.out, List.getElem?_take, if_pos h1, List.getElem?_drop]; exact hx
     have HX := Lib.hid (bsum_take L m x hLx)
     have hr := bsum_range (L.take m)
     have hr8 : (2 : Int) ^ (L.take m).length ≤ 2 ^ 7 := by
      have := Nat.pow_le_pow_right (by omega : 0 < 2) (show (L.take m).length ≤ 7 by rw [List.length_take]; omega)
      exact_mod_cast this
     have hp0 : (0 : Int) ≤ 2 ^ m := Int.pow_nonneg (by omega)
     have hp8 : (2 : Int) ^ m ≤ 2 ^ 7 := by
      have := Nat.pow_le_pow_right (by omega : 0 < 2) (show m ≤ 7 by omega)
      exact_mod_cast this
     obtain ⟨p, hp⟩ : ∃ p : Int, (2 : Int) ^ m = p := ⟨_, rfl⟩
     obtain ⟨s, hs⟩ : ∃ s : Int, bsum (L.take m) = s := ⟨_, rfl⟩
     have HP := Lib.hid (show (2 : Int) ^ (m + 1) = p * 2 by rw [Int.pow_succ, hp])
     rw [hs] at hr
     rw [hp] at hp0 hp8
     rw [hs, hp] at HX
     have hsb : 0 ≤ s ∧ s < 128 := by omega
     clear hr hr8 hx hLx
     rw [hs, hp]
     clear hs hp
     cases x with
     | true =>
      go_wp2
      have hx := HX.out
      simp only [if_true] at hx
      exact ⟨⟨_, _, _, ⟨m + 1, by omega, rfl, rfl, rfl⟩, by rw [hx], by rw [HP.out], by go_num⟩, by simp [intOf]; omega⟩
     | false =>
      go_wp2
      have hx := HX.out
      simp only [Bool.false_eq_true, if_false, Int.add_zero] at hx
      refine ⟨⟨.int .i64 s, .int .i64 (p * 2), .int .i64 (8 * j + m + 1), _, _, _, _, _, _, _, _, _, _, _, _, _, _, _, _, _, _, _, _, _, ⟨m + 1, by omega, by rw [hx], by rw [HP.out], by go_num, hown, hb⟩, by simp; and_intros <;> first | omega | rfl⟩, ?_⟩
      simp [intOf]
      omega
    ·obtain rfl : m = L.length := by omega
     have hend : L.length = 8 ∨ (L.length < 8 ∧ 8 * j + L.length = nb) := by have := HLN.out; omega
     have hsum : bsum (L.take L.length) = byteOf xs j := by rw [List.take_length]; unfold byteOf; rw [HLL.out]
     have hbs := byteOf_small xs j
     rw [hsum]
     have HBS := Lib.hid hbs
     obtain ⟨y, hy⟩ : ∃ y, byteOf xs j = y := ⟨_, rfl⟩
     rw [hy] at hbs ⊢
     have HY := Lib.hid hy
     have hu8 : IntKind.u8.wrap y = y := by rw [IntKind.wrap_u8]; omega
     clear hsum hy
     obtain ⟨q, hq⟩ : ∃ q, 8 * j + L.length = q := ⟨_, rfl⟩
     have HQ := Lib.hid hq
     have hqq : (q : Int) < 8 * j + 8 ∧ ¬ q < nb ∨ ¬ (q : Int) < 8 * j + 8 := by omega
     rw [hq]
     have hsz := hb.size
     have hjj : j ≤ 1000000 := by omega
     clear hq hend hml hm8
     rcases hqq with ⟨h1, h2⟩ | h1
     ·go_wp2_with ((with_reducible refine at_append ?_); refine wpList_append_own _ rfl _ _ 22 rfl w.heap.size 5 i0 (.int .u8 0) 1 1 Tryd.underlying22 hi hz0 hz1 hz2 rfl (by decide) _ _ _ rfl (hown.alloc _) ⟨wr.heap.size, 0, none⟩ 1 1 [.int .u8 y] rfl rfl (World.news_of_block (cs := #[.int .u8 y]) (t := 5) (fr := (0, 0)) (heap_alloc_new wr _)) (by simp [Value.oneCell']) (by unfold maxLen; omega) (by omega) (by simp; omega) ?_; intro v' w1 hown' hgrow _; have hb2 : Below w.heap.size w w1 := (hb.alloc hsz _).grown hgrow (by simp; omega) (fun j hj => (hown.lt j hj).1))
      go_roundw
      case rel =>
       refine ⟨j + 1, by omega, by go_num, ?_, hb2⟩
       rw [HPS.out, HY.out]; simpa using hown'
      case measure => simp [intOf]; omega
     ·go_wp2_with ((with_reducible refine at_append ?_); refine wpList_append_own _ rfl _ _ 22 rfl w.heap.size 5 i0 (.int .u8 0) 1 1 Tryd.underlying22 hi hz0 hz1 hz2 rfl (by decide) _ _ _ rfl (hown.alloc _) ⟨wr.heap.size, 0, none⟩ 1 1 [.int .u8 y] rfl rfl (World.news_of_block (cs := #[.int .u8 y]) (t := 5) (fr := (0, 0)) (heap_alloc_new wr _)) (by simp [Value.oneCell']) (by unfold maxLen; omega) (by omega) (by simp; omega) ?_; intro v' w1 hown' hgrow _; have hb2 : Below w.heap.size w w1 := (hb.alloc hsz _).grown hgrow (by simp; omega) (fun j hj => (hown.lt j hj).1))
      go_roundw
      case rel =>
       refine ⟨j + 1, by omega, by go_num, ?_, hb2⟩
       rw [HPS.out, HY.out]; simpa using hown'
      case measure => simp [intOf]; omega
  ·go_wp2
   go_ret
   have hjn : j = (nb + 7) / 8 := by omega
   refine ⟨_, rfl, ?_, hb⟩
   rw [packN_len, HL.out, ← hjn]
   have : packN xs = packs xs j := by unfold packN packs; rw [HL.out, ← hjn]
   rw [this]
   exact hown
theorem own_same {w w' : World} {base : Nat} {e : TypeId} {size n : Nat} {v : Value} {xs : List Value} (h : w.ownsRow base e size v n xs) (hb : ∀ b, v.ownBlock = some b → w'.heap[b]? = w.heap[b]?) : w'.ownsRow base e size v n xs := by
 refine ⟨h.1, ?_⟩
 rcases h.2 with h2 | ⟨g, cap, cur, hv, hg, hh, r⟩
 ·exact .inl h2
 ·exact .inr ⟨g, cap, cur, hv, hg, (hb g (by rw [hv]; rfl)).trans hh, r⟩
theorem own_up {w w' : World} {base : Nat} {e : TypeId} {size n : Nat} {v : Value} {xs : List Value} (h : w.ownsRow base e size v n xs) (hb : Below w.heap.size w w') : w'.ownsRow base e size v n xs :=
 own_same h fun b e => hb.block b (h.lt b e).2
def lrow (i : Nat) : Int × Int × Int × Int := [(1, 2000, 0, 0), (2, 2000, 0, 0), (3, 125, 0, 0), (4, 125, 0, 0), (5, 0, 1, 0), (6, 0, 0, 1), (15, 0, 1968, 0), (16, 0, 0, 123), (23, 125, 0, 121)].getD i (0, 0, 0, 0)
def limL : List Value := [.int .i64 1, .int .i64 2000, .int .i64 0, .int .i64 0, .int .i64 2, .int .i64 2000, .int .i64 0, .int .i64 0, .int .i64 3, .int .i64 125, .int .i64 0, .int .i64 0, .int .i64 4, .int .i64 125, .int .i64 0, .int .i64 0, .int .i64 5, .int .i64 0, .int .i64 1, .int .i64 0, .int .i64 6, .int .i64 0, .int .i64 0, .int .i64 1, .int .i64 15, .int .i64 0, .int .i64 1968, .int .i64 0, .int .i64 16, .int .i64 0, .int .i64 0, .int .i64 123, .int .i64 23, .int .i64 125, .int .i64 0, .int .i64 121]
def LimT (w : World) : Prop := w.rangeAt 1 0 limL
theorem LimT.up {w w' : World} (h : LimT w) (hb : Below w.heap.size w w') : LimT w' := fun j v hj =>
 (hb.cell (p := ⟨1, 0 + j, none⟩) (World.block_lt_of_cell? w _ (h j v hj))).trans (h j v hj)
theorem lim_index (i : Nat) (hi : i < 9) (w : World) : (Instr.index 207 (.agg limL.toArray) (.int .i64 (i : Int))).run Tryd.prog w = .ok (.agg #[.int .i64 (lrow i).1, .int .i64 (lrow i).2.1, .int .i64 (lrow i).2.2.1, .int .i64 (lrow i).2.2.2]) w := by
 have h : i = 0 ∨ i = 1 ∨ i = 2 ∨ i = 3 ∨ i = 4 ∨ i = 5 ∨ i = 6 ∨ i = 7 ∨ i = 8 := by omega
 rcases h with rfl | rfl | rfl | rfl | rfl | rfl | rfl | rfl | rfl
 all_goals
  change _ = _
  kernel_rfl
theorem lrow_lim (i : Nat) (hi : i < 9) : limP (lrow i).1 = some ((lrow i).2.1, (lrow i).2.2.1, (lrow i).2.2.2) := by
 match i, hi with
 | 0, _ => rfl
 | 1, _ => rfl
 | 2, _ => rfl
 | 3, _ => rfl
 | 4, _ => rfl
 | 5, _ => rfl
 | 6, _ => rfl
 | 7, _ => rfl
 | 8, _ => rfl
theorem lrow_none (fn : Int) (h : ∀ j, j < 9 → (lrow j).1 ≠ fn) : limP fn = none := by
 have h0 := h 0 (by omega)
 have h1 := h 1 (by omega)
 have h2 := h 2 (by omega)
 have h3 := h 3 (by omega)
 have h4 := h 4 (by omega)
 have h5 := h 5 (by omega)
 have h6 := h 6 (by omega)
 have h7 := h 7 (by omega)
 have h8 := h 8 (by omega)
 simp only [lrow, List.getD_cons_zero, List.getD_cons_succ] at h0 h1 h2 h3 h4 h5 h6 h7 h8
 unfold limP
 rw [if_neg (by omega), if_neg (by omega), if_neg (by omega), if_neg (by omega), if_neg (by omega), if_neg (by omega), if_neg (by omega)]
def ofV (fn : Int) : Value := match limP fn with
 | some (r, b, g) => .tuple #[.agg #[.int .i64 fn, .int .i64 r, .int .i64 b, .int .i64 g], .bool true]
 | none => .tuple #[.agg #[.int .i64 0, .int .i64 0, .int .i64 0, .int .i64 0], .bool false]
theorem of_own (fn : Int) (w : World) (hT : LimT w) : Calls Tryd.prog 98 #[.int .i64 fn] w fun e w' => e = .returned (ofV fn) ∧ Below w.heap.size w w' := by
 have hu := Tryd.underlying207
 have hi : (Tryd.prog.info? 207).map (·.size) = some limL.length := by kernel_rfl
 have HT := Lib.hid (fun (X : World) (h : Below w.heap.size w X) => hT.up h)
 clear hT
 go_in
 go_wp2_with (first | (refine wpList_load_mid rfl 207 (.global 1) rfl 1 0 rfl limL _ (HT.out _ ((Below.refl _ w).alloc (Nat.le_refl _) _)) hu rfl hi ?_) | fail)
 go_loopw [5, 7] (fun _ u7 wr => ∃ i : Nat, i ≤ 9 ∧ u7 = .int .i64 i ∧ Hid (∀ j, j < i → (lrow j).1 ≠ fn) ∧ Below w.heap.size w wr ∧ Held wr w.heap.size 167 #[.int .i64 0, .int .i64 0, .int .i64 0, .int .i64 0]) (fun _ u7 _ => 9 - (intOf u7).toNat)
 case atStart => exact ⟨0, by omega, rfl, Lib.hid (fun j hj => by omega), (Below.refl _ w).alloc (Nat.le_refl _) _, Held.new _ _ _⟩
 case round =>
  obtain ⟨i, hi9, rfl, hno, hbr, hH⟩ := hrel
  have hsz := hH.lt
  have c0 : wr.cell? ⟨w.heap.size, 0, none⟩ = some (.int .i64 0) := hH.cell 0
  have c1 : wr.cell? ⟨w.heap.size, 1, none⟩ = some (.int .i64 0) := hH.cell 1
  have c2 : wr.cell? ⟨w.heap.size, 2, none⟩ = some (.int .i64 0) := hH.cell 2
  have c3 : wr.cell? ⟨w.heap.size, 3, none⟩ = some (.int .i64 0) := hH.cell 3
  have fz := hH.frozen
  by_cases hlt : i < 9
  ·have hix := lim_index i hlt
   have HL := Lib.hid (lrow_lim i hlt)
   obtain ⟨f, hf⟩ : ∃ f, (lrow i).1 = f := ⟨_, rfl⟩
   obtain ⟨r, hr⟩ : ∃ f, (lrow i).2.1 = f := ⟨_, rfl⟩
   obtain ⟨b, hb⟩ : ∃ f, (lrow i).2.2.1 = f := ⟨_, rfl⟩
   obtain ⟨g, hg⟩ : ∃ f, (lrow i).2.2.2 = f := ⟨_, rfl⟩
   simp only [hf, hr, hb, hg] at hix
   rw [hf, hr, hb, hg] at HL
   have HF := Lib.hid hf
   clear hf hr hb hg
   by_cases he : f = fn
   ·subst he
    go_wp2_with fail
    obtain ⟨wz, hwz⟩ : ∃ wz, ((((wr.setCell ⟨w.heap.size, 0, none⟩ (.int .i64 f)).setCell ⟨w.heap.size, 1, none⟩ (.int .i64 r)).setCell ⟨w.heap.size, 2, none⟩ (.int .i64 b)).setCell ⟨w.heap.size, 3, none⟩ (.int .i64 g)).alloc (.cells #[.int .i64 f, .int .i64 r, .int .i64 b, .int .i64 g] 167) = wz := ⟨_, rfl⟩
    have hZ : Held wz w.heap.size 167 #[.int .i64 f, .int .i64 r, .int .i64 b, .int .i64 g] := by rw [← hwz]; exact ((((hH.set 0 _).set 1 _).set 2 _).set 3 _).alloc _
    have hbz : Below w.heap.size w wz := by rw [← hwz]; exact ((((hbr.setCell (p := ⟨w.heap.size, 0, none⟩) (Nat.le_refl _) _).setCell (p := ⟨w.heap.size, 1, none⟩) (Nat.le_refl _) _).setCell (p := ⟨w.heap.size, 2, none⟩) (Nat.le_refl _) _).setCell (p := ⟨w.heap.size, 3, none⟩) (Nat.le_refl _) _).alloc (by simp [World.setCell]; omega) _
    obtain ⟨d0, d1, d2, d3⟩ := zC4 hZ
    rw [hwz]
    exact bodyPost_ret (v := .tuple #[.agg #[.int .i64 f, .int .i64 r, .int .i64 b, .int .i64 g], .bool true]) (by simp [results, Tryd.results98, go_sem, d0, d1, d2, d3]) rfl ⟨by unfold ofV; rw [HL.out], hbz⟩
   ·have he2 : (f == fn) = false := by simpa using he
    go_wp2_with fail
    go_roundw
    case rel =>
     refine ⟨i + 1, by omega, by go_num, Lib.hid (fun j hj => ?_), hbr.alloc (by omega) _, hH.alloc _⟩
     rcases Nat.lt_or_eq_of_le (Nat.le_of_lt_succ hj) with h | rfl
     ·exact hno.out j h
     ·rw [HF.out]; exact he
    case measure => simp [intOf]; omega
  ·obtain rfl : i = 9 := by omega
   go_wp2_with fail
   obtain ⟨wz, hwz⟩ : ∃ wz, (((wr.setCell ⟨w.heap.size, 0, none⟩ (.int .i64 0)).setCell ⟨w.heap.size, 1, none⟩ (.int .i64 0)).setCell ⟨w.heap.size, 2, none⟩ (.int .i64 0)).setCell ⟨w.heap.size, 3, none⟩ (.int .i64 0) = wz := ⟨_, rfl⟩
   have hZ : Held wz w.heap.size 167 #[.int .i64 0, .int .i64 0, .int .i64 0, .int .i64 0] := by rw [← hwz]; exact (((hH.set 0 _).set 1 _).set 2 _).set 3 _
   have hbz : Below w.heap.size w wz := by rw [← hwz]; exact (((hbr.setCell (p := ⟨w.heap.size, 0, none⟩) (Nat.le_refl _) _).setCell (p := ⟨w.heap.size, 1, none⟩) (Nat.le_refl _) _).setCell (p := ⟨w.heap.size, 2, none⟩) (Nat.le_refl _) _).setCell (p := ⟨w.heap.size, 3, none⟩) (Nat.le_refl _) _
   obtain ⟨d0, d1, d2, d3⟩ := zC4 hZ
   rw [hwz]
   exact bodyPost_ret (v := .tuple #[.agg #[.int .i64 0, .int .i64 0, .int .i64 0, .int .i64 0], .bool false]) (by simp [results, Tryd.results98, go_sem, d0, d1, d2, d3]) rfl ⟨by unfold ofV; rw [lrow_none fn hno.out], hbz⟩
theorem fits_own (n m : Int) (w : World) : Calls Tryd.prog 99 #[.int .i64 n, .int .i64 m] w fun e w' => e = .returned (.bool (fitP n m)) ∧ w = w' := by
 by_cases h0 : 1 ≤ m
 ·by_cases h1 : 1 ≤ n
  ·go_in
   go_wp2
   go_ret
   refine ⟨retb ?_, rfl⟩
   unfold fitP
   rw [decide_eq_true (show min 1 m ≤ n by omega)]
   rfl
  ·go_in
   go_wp2
   go_ret
   refine ⟨retb ?_, rfl⟩
   unfold fitP
   rw [decide_eq_false (show ¬ min 1 m ≤ n by omega)]
   rfl
 ·by_cases h1 : m ≤ n
  ·go_in
   go_wp2
   go_ret
   refine ⟨retb ?_, rfl⟩
   unfold fitP
   rw [decide_eq_true (show min 1 m ≤ n by omega)]
   rfl
  ·go_in
   go_wp2
   go_ret
   refine ⟨retb ?_, rfl⟩
   unfold fitP
   rw [decide_eq_false (show ¬ min 1 m ≤ n by omega)]
   rfl
def OffRow (v : Value) (A : Option Addr) : Prop := ∀ g, v.ownBlock = some g → ∀ a, A = some a → a.block ≠ g
theorem SlI.grown {w w' : World} {k : IntKind} {A : Option Addr} {n c : Nat} {xs : List Int} {v : Value} (h : SlI w w.heap.size k A n c xs) (hg : w.grownBy w' v.ownBlock) (ho : OffRow v A) : SlI w' w'.heap.size k A n c xs := by
 refine ⟨h.1, h.2.1, h.2.2.1, h.2.2.2.1, fun hn => ?_⟩
 obtain ⟨g, off, e, hb, hc⟩ := h.2.2.2.2 hn
 refine ⟨g, off, e, Nat.lt_of_lt_of_le hb hg.size, fun i x hx => ?_⟩
 rw [World.cell?_of_block (hg.block g hb (fun hr => ho g hr.symm _ e rfl))]
 exact hc i x hx
theorem OffRow.next {w : World} {v v' : Value} {k : IntKind} {A : Option Addr} {n c : Nat} {xs : List Int} (ho : OffRow v A) (hA : SlI w w.heap.size k A n c xs) (h0 : 0 < n) (h : v'.ownBlock = v.ownBlock ∨ v'.ownBlock = some w.heap.size) : OffRow v' A := by
 intro g hg a ha
 rcases h with h | h
 ·exact ho g (h.symm.trans hg) a ha
 ·rw [hg] at h
  injection h with h
  obtain ⟨g', off, e, hb⟩ := hA.some_ h0
  rw [ha] at e
  injection e with e
  subst e
  show g' ≠ g
  omega
theorem grow_nil (n : Nat) (h0 : 0 < n) (hn : n ≤ 1000000) (w : World) :
  Calls Tryd.prog 132 #[.slice none 0 0, .int .i64 n] w fun e w' => ∃ v, e = .returned v ∧ w'.ownsRow w.heap.size 5 1 v 0 [] ∧ Below w.heap.size w w' := by
 obtain ⟨i0, hi, hz0, hz1, hz2⟩ := info_parts infoU8
 have h := Lib.run_append_grow_zeros w 22 3 22 5 i0 (.int .u8 0) .i64 .i64 Tryd.underlying22 Tryd.underlying3 hi hz0 none 0 0 [] (run_firstCells_none w.drew i0.size 0 0 0) n h0 (by rw [hz1]; decide) (by omega) (by omega) (by rw [hz2]; omega)
  (by rw [hz2]; exact growslice_fits (by omega) (by omega))
 rw [Nat.zero_add] at h
 obtain ⟨G, hG⟩ : ∃ G, grownCap w n 0 5 = G := ⟨_, rfl⟩
 have hGn : n ≤ G := by rw [← hG]; exact grownCap_ge w _ _ _
 have hG63 : G ≤ maxLen := by rw [← hG]; exact grownCap_le_maxLen w n 0 5 (by unfold maxLen; omega)
 obtain ⟨C, hC⟩ : ∃ C, ((([] : List Value).toArray ++ Builtin.zeroCells (Value.int .u8 0).cells n ++ Builtin.zeroCells (Value.int .u8 0).cells (G - n))) = C := ⟨_, rfl⟩
 have hCs : C.size = G := by rw [← hC]; simp [Builtin.zeroCells, Value.cells]; omega
 rw [hG, hC] at h
 have hG2 : (G : Int) ≤ 9223372036854775807 := by unfold maxLen at hG63; omega
 have HG := Lib.hid hG63
 clear hG hC hG63
 go_in
 go_wp2_with (at_builtin; refine Lib.wpList_append_run _ rfl _ _ _ _ rfl _ _ rfl rfl _ _ h ?_)
 all_goals
  go_ret
  refine ⟨_, rfl, ⟨rfl, .inr ⟨w.heap.size, G, C, rfl, Nat.le_refl _, heap_alloc_new w.drew _, Nat.zero_le _, HG.out, by rw [hCs, Nat.mul_one], by simp⟩⟩, (Below.refl _ w).drew.alloc (Nat.le_refl _) _⟩
theorem concat3 (B : Nat) (A1 : Option Addr) (n1 c1 : Nat) (x1 : List Int) (A2 : Option Addr) (n2 c2 : Nat) (x2 : List Int) (A3 : Option Addr) (n3 c3 : Nat) (x3 : List Int) (w : World)
  (hB : Held w B 22 #[.slice A1 n1 c1, .slice A2 n2 c2, .slice A3 n3 c3]) (s1 : SlI w w.heap.size .u8 A1 n1 c1 x1) (s2 : SlI w w.heap.size .u8 A2 n2 c2 x2) (s3 : SlI w w.heap.size .u8 A3 n3 c3 x3) (h0 : 0 < n1 + n2 + n3) (hm : n1 + n2 + n3 ≤ 600000) :
  Calls Tryd.prog 100 #[.slice (some ⟨B, 0, none⟩) 3 3] w fun e w' => ∃ v, e = .returned v ∧ w'.ownsRow w.heap.size 5 1 v (n1 + n2 + n3) ((x1 ++ x2 ++ x3).map (Value.int .u8)) ∧ Below w.heap.size w w' := by
 obtain ⟨i0, hi, hz0, hz1, hz2⟩ := info_parts infoU8
 have b0 : w.cell? ⟨B, 0, none⟩ = some (.slice A1 n1 c1) := hB.cell 0
 have b1 : w.cell? ⟨B, 1, none⟩ = some (.slice A2 n2 c2) := hB.cell 1
 have b2 : w.cell? ⟨B, 2, none⟩ = some (.slice A3 n3 c3) := hB.cell 2
 have hg := grow_nil (n1 + n2 + n3) h0 (by omega) w
 rw [show ((n1 + n2 + n3 : Nat) : Int) = (n1 : Int) + n2 + n3 by omega] at hg
 have HG := Lib.hid hg
 have H1 := Lib.hid (fun (X : World) (h : Below w.heap.size w X) => s1.up h)
 have H2 := Lib.hid (fun (X : World) (h : Below w.heap.size w X) => s2.up h)
 have H3 := Lib.hid (fun (X : World) (h : Below w.heap.size w X) => s3.up h)
 have k1 : n1 ≤ 600000 := by omega
 have k2 : n2 ≤ 600000 := by omega
 have k3 : n3 ≤ 600000 := by omega
 clear hg s1 s2 s3
 go_in
 go_wp2_with fail
 refine wp_loop_rounds 4 ?_
 iterate 4
  rw [rounds_succ]
  go_wp2_with fail
 refine HG.out.mono ?_
 rintro e w1 ⟨v1, rfl, o1, hb1⟩
 have hz1' := hb1.size
 have hB1 := hB.below hb1 hB.lt
 have d0 : w1.cell? ⟨B, 0, none⟩ = some (.slice A1 n1 c1) := hB1.cell 0
 have d1 : w1.cell? ⟨B, 1, none⟩ = some (.slice A2 n2 c2) := hB1.cell 1
 have d2 : w1.cell? ⟨B, 2, none⟩ = some (.slice A3 n3 c3) := hB1.cell 2
 clear b0 b1 b2
 go_wp2_with fail
 refine wp_loop_rounds 4 ?_
 rw [rounds_succ]
 have o1' : w1.ownsRow w.heap.size 5 1 v1 0 [] := o1
 go_wp2_with ((with_reducible refine at_append ?_); refine wpList_append_sl w1 rfl (.tmp 31) (.tmp 32) 22 rfl w.heap.size 5 i0 (.int .u8 0) 1 Tryd.underlying22 hi hz0 hz1 hz2 rfl v1 0 [] rfl o1' w1.heap.size .u8 A1 n1 c1 x1 rfl (H1.out w1 hb1) (by unfold maxLen; omega) (by omega) hz1' ?_; intro v2 w2 o2 hgr2 _; have hb2 : Below w.heap.size w w2 := hb1.grown hgr2 hz1' (fun j hj => (o1'.lt j hj).1); have hz2' := hb2.size; have hB2 := hB.below hb2 hB.lt; have e1 : w2.cell? ⟨B, 1, none⟩ = some (.slice A2 n2 c2) := hB2.cell 1; have O2 : w2.ownsRow w.heap.size 5 1 v2 n1 (x1.map (Value.int .u8)) := by { simpa using o2 }; clear hgr2 o2)
 rw [rounds_succ]
 go_wp2_with ((with_reducible refine at_append ?_); refine wpList_append_sl w2 rfl (.tmp 31) (.tmp 32) 22 rfl w.heap.size 5 i0 (.int .u8 0) 1 Tryd.underlying22 hi hz0 hz1 hz2 rfl v2 n1 _ rfl O2 w2.heap.size .u8 A2 n2 c2 x2 rfl (H2.out w2 hb2) (by unfold maxLen; omega) (by omega) hz2' ?_; intro v3 w3 o3 hgr3 _; have hb3 : Below w.heap.size w w3 := hb2.grown hgr3 hz2' (fun j hj => (O2.lt j hj).1); have hz3' := hb3.size; have hB3 := hB.below hb3 hB.lt; have e2 : w3.cell? ⟨B, 2, none⟩ = some (.slice A3 n3 c3) := hB3.cell 2; have O3 := o3; clear hgr3 o3)
 rw [rounds_succ]
 go_wp2_with ((with_reducible refine at_append ?_); refine wpList_append_sl w3 rfl (.tmp 31) (.tmp 32) 22 rfl w.heap.size 5 i0 (.int .u8 0) 1 Tryd.underlying22 hi hz0 hz1 hz2 rfl v3 (n1 + n2) _ rfl O3 w3.heap.size .u8 A3 n3 c3 x3 rfl (H3.out w3 hb3) (by unfold maxLen; omega) (by omega) hz3' ?_; intro v4 w4 o4 hgr4 _; have hb4 : Below w.heap.size w w4 := hb3.grown hgr4 hz3' (fun j hj => (O3.lt j hj).1); have O4 := Lib.hid o4; clear hgr4 o4)
 rw [rounds_succ]
 go_wp2_with fail
 go_ret
 exact ⟨_, rfl, by rw [List.map_append, List.map_append]; exact O4.out, hb4⟩
theorem behind_any (A1 : Option Addr) (n1 c1 : Nat) (x1 : List Int) (A3 : Option Addr) (n3 c3 : Nat) (x3 : List Int) (w : World) (s1 : SlI w w.heap.size .u8 A1 n1 c1 x1) (s3 : SlI w w.heap.size .u8 A3 n3 c3 x3) (hn : n1 ≤ 1000) (hm : n3 < 256) :
  Calls Tryd.prog 63 #[.slice A1 n1 c1, .slice A3 n3 c3] w fun e w' => ∃ v, e = .returned v ∧ w'.ownsRow w.heap.size 5 1 v (n1 + 1 + n3) ((x1 ++ (n3 : Int) :: x3).map (Value.int .u8)) ∧ Below w.heap.size w w' := by
 obtain ⟨w1, hw1⟩ : ∃ w1, w.alloc (.cells #[.int .u8 (n3 : Int)] 5) = w1 := ⟨_, rfl⟩
 have hb1 := zB1 hw1
 have hz1 : w1.heap.size = w.heap.size + 1 := by rw [← hw1]; simp
 have sl : SlI w1 w1.heap.size .u8 (some ⟨w.heap.size, 0, none⟩) 1 1 [(n3 : Int)] := by rw [← hw1]; exact SlI.of_lit rfl rfl (by omega)
 obtain ⟨w2, hw2⟩ : ∃ w2, w1.alloc (.cells #[.slice A1 n1 c1, .slice (some ⟨w.heap.size, 0, none⟩) 1 1, .slice A3 n3 c3] 22) = w2 := ⟨_, rfl⟩
 have hb2 := zB1 hw2
 have hz2 : w2.heap.size = w1.heap.size + 1 := by rw [← hw2]; simp
 have hH := zH1 hw2
 have hbw : Below w.heap.size w w2 := hb1.trans (hb2.mono (by omega))
 have HC := Lib.hid (concat3 w1.heap.size A1 n1 c1 x1 (some ⟨w.heap.size, 0, none⟩) 1 1 [(n3 : Int)] A3 n3 c3 x3 w2 hH (s1.up hbw) (sl.up hb2) (s3.up hbw) (by omega) (by omega))
 rw [hz1] at HC
 have hmod : (n3 : Int) % 256 = n3 := by omega
 clear hH sl s1 s3
 go_in
 go_wp2_with fail
 refine HC.out.mono ?_
 rintro e w3 ⟨v, rfl, ho, hb3⟩
 go_wp2_with fail
 go_ret
 refine ⟨v, rfl, ?_, hbw.trans (hb3.mono hbw.size)⟩
 have := own_base ho (base' := w.heap.size) hbw.size
 simpa using this
theorem two_any (n : Int) (h : 0 ≤ n ∧ n < 65536) (w : World) :
  Calls Tryd.prog 117 #[.int .i64 n] w fun e w' => e = .returned (.slice (some ⟨w.heap.size, 0, none⟩) 2 2) ∧ w' = w.alloc (.cells #[.int .u8 (n / 256), .int .u8 (n % 256)] 5) := by
 obtain ⟨h0, h1⟩ := h
 have t1 : n.tdiv 256 = n / 256 := Int.tdiv_eq_ediv_of_nonneg h0
 have t2 : n.tmod 256 = n % 256 := Int.tmod_eq_emod_of_nonneg h0
 have e1 : n / 256 % 256 = n / 256 := by omega
 have e2 : n % 256 % 256 = n % 256 := by omega
 go_in
 go_wp2
 go_ret
 exact ⟨rfl, rfl⟩
theorem two_sl (n : Int) (w : World) : SlI (w.alloc (.cells #[.int .u8 (n / 256), .int .u8 (n % 256)] 5)) (w.alloc (.cells #[.int .u8 (n / 256), .int .u8 (n % 256)] 5)).heap.size .u8 (some ⟨w.heap.size, 0, none⟩) 2 2 (twoI n) := SlI.of_lit rfl rfl (by omega)
theorem rwords_any (A : Option Addr) (m c : Nat) (ys : List Int) (hreach : m ≤ 100000) (w : World) (hA : SlI w w.heap.size .u16 A m c ys) (hy : Reg16 ys) :
  Calls Tryd.prog 119 #[.slice A m c] w fun e w' => ∃ v', e = .returned v' ∧ w'.ownsRow w.heap.size 5 1 v' (2 * m) ((twosI ys).map (Value.int .u8)) ∧ Below w.heap.size w w' := by
 obtain ⟨i0, hi, hz0, hz1, hz2⟩ := info_parts infoU8
 have HY := Lib.hid hy
 have HL := Lib.hid hA.1
 have HA := Lib.hid (fun (X : World) (h : Below w.heap.size w X) => hA.up h)
 clear hy hA
 go_in
 go_wp2
 go_loopw [3, 4] (fun u3 u4 wr => ∃ k : Nat, k ≤ m ∧ u4 = .int .i64 k ∧ wr.ownsRow w.heap.size 5 1 u3 (2 * k) ((twosI (ys.take k)).map (Value.int .u8)) ∧ Below w.heap.size w wr) (fun _ u4 _ => m - (intOf u4).toNat)
 case atStart => exact ⟨0, by omega, rfl, World.ownsRow_nil _ _ _ _, Below.refl _ _⟩
 case round =>
  obtain ⟨k, hk, rfl, hown, hb⟩ := hrel
  have hsz := hb.size
  by_cases hlt : k < m
  ·obtain ⟨g, off, x, rfl, hg, hx, hc⟩ := (HA.out wr hb).2.2.2.2.at_ (i := k) (by rw [HL.out]; exact hlt)
   have hxr := HY.out x (List.mem_of_getElem? hx)
   obtain ⟨x0, x1⟩ := id hxr
   have HS := Lib.hid (show twosI (ys.take (k + 1)) = twosI (ys.take k) ++ twoI x by rw [List.take_add_one, hx, Option.toList_some, twosI_snoc])
   have HT := Lib.hid (two_any x hxr wr)
   have HO := Lib.hid hown
   clear hx hown hxr
   go_wp2_with (first
    | (go_at_call 117; (with_reducible refine HT.out.mono ?_); rintro e wt ⟨rfl, hwt⟩; have hbt : Below wr.heap.size wr wt := (by rw [hwt]; exact (Below.refl _ wr).alloc (Nat.le_refl _) _); have hst : SlI wt wt.heap.size .u8 (some ⟨wr.heap.size, 0, none⟩) 2 2 (twoI x) := (by rw [hwt]; exact two_sl x wr); have hOt := own_up HO.out hbt; have hzt := hbt.size; clear hwt)
    | ((with_reducible refine at_append ?_); refine wpList_append_sl wt rfl (.tmp 11) (.tmp 17) 22 rfl w.heap.size 5 i0 (.int .u8 0) 1 Tryd.underlying22 hi hz0 hz1 hz2 rfl u3 (2 * k) _ rfl hOt wt.heap.size .u8 (some ⟨wr.heap.size, 0, none⟩) 2 2 (twoI x) rfl hst (by unfold maxLen; omega) (by omega) (by omega) ?_; intro v2 w2 o2 hgr2 _; have hb2 : Below w.heap.size w w2 := (hb.trans (hbt.mono hsz)).grown hgr2 (by omega) (fun j hj => (hOt.lt j hj).1); have O2 := Lib.hid o2; clear hgr2 o2))
   go_roundw
   case rel => exact ⟨k + 1, by omega, by go_num, by rw [HS.out, List.map_append, show 2 * (k + 1) = 2 * k + 2 by omega]; exact O2.out, hb2⟩
   case measure => simp [intOf]; omega
  ·obtain rfl : k = m := by omega
   go_wp2
   go_ret
   refine ⟨_, rfl, ?_, hb⟩
   rw [List.take_of_length_le (by have := HL.out; omega)] at hown
   exact hown
abbrev Reg := { x : Int // 0 ≤ x ∧ x < 65536 }
def pairV (x : Reg) : Array Value := #[.agg #[.int .u8 (x.1 / 256), .int .u8 (x.1 % 256)]]
theorem pairs1_in (F : Fence) (n : Nat) (hF : F.fn 133) (hro : F.round = none) (hn : 1 ≤ n) (l Bs n₀ : Nat) (A : Option Addr) (len cap : Nat) (zs : List Reg) (hreach : len ≤ 1000000) (hl : zs.length = len) (J Jx : List Reg → World → Prop)
  (hY : ∀ pre x W, J pre W → pre.length < len → YieldAt F (n - 1) Tryd.prog l (pairV x) W fun e W' =>
   (e = .returned (.bool true) ∧ J (pre ++ [x]) W' ∧ Below n₀ W W') ∨ (e = .returned (.bool false) ∧ Jx (pre ++ [x]) W'))
  (W : World) (hBs : W.cell? ⟨Bs, 0, none⟩ = some (.slice A len cap)) (hc : RdI W n₀ .u16 A (zs.map (·.1))) (h0 : J [] W) :
  CallsIn F n Tryd.prog 133 #[.func (.yield l) #[] #[], .pointer (some ⟨Bs, 0, none⟩)] W fun e W' => (∃ v, e = .returned v) ∧
   ((∃ ys, ys = zs ∧ J ys W') ∨ (∃ pre, pre <+: zs ∧ Jx pre W')) := by
 have HC := Lib.hid hc
 have HL := Lib.hid hl
 clear hc hl
 refine callsIn_of_wp Tryd.func133 rfl hF ?_ hro
 simp only [Tryd.ntmps133, List.size_toArray, List.length_cons, List.length_nil, Nat.reduceAdd, Nat.reduceSub, Array.replicate_succ, Array.replicate_zero, List.push_toArray, List.append_toArray, List.nil_append, List.cons_append]
 gi_wp2
 gi_loopw [7] (fun i wr => ∃ k : Nat, k ≤ len ∧ i = .int .i64 k ∧ J (zs.take k) wr ∧ Below n₀ W wr)
  (fun i _ => len - (intOf i).toNat)
 case atStart => exact ⟨0, Nat.zero_le _, rfl, by simpa using h0, Below.refl _ _⟩
 case round =>
  obtain ⟨k, hk, rfl, hJs, hnx⟩ := hrel
  by_cases hlt : k < len
  ·obtain ⟨x, hx⟩ : ∃ x, zs[k]? = some x := ⟨_, List.getElem?_eq_getElem (by rw [HL.out]; exact hlt)⟩
   obtain ⟨g, off, y, rfl, _, hy0, hcx⟩ := (HC.out.below hnx).at_ (i := k) (by rw [List.length_map, HL.out]; exact hlt)
   obtain rfl : x.1 = y := by simpa [hx] using hy0
   clear hy0
   obtain ⟨fn, tmps, assign, body, hy, hR⟩ := hY _ x wr hJs (by rw [List.length_take, HL.out]; omega)
   have HX := Lib.hid (show zs.take (k + 1) = zs.take k ++ [x] by rw [List.take_add_one, hx, Option.toList_some])
   obtain ⟨x, hx0, hx1⟩ := x
   unfold pairV at hy
   dsimp only at hy hcx
   clear hx
   gi_wp2
   refine hR.mono ?_
   rintro e W3 (⟨rfl, hJ3, hk3⟩ | ⟨rfl, hJx3⟩)
   ·gi_wp2
    go_roundw
    case rel => exact ⟨k + 1, by omega, by simp, by rw [HX.out]; exact hJ3, hnx.trans hk3⟩
    case measure => simp [intOf]; omega
   ·gi_wp2
    refine bodyPost_ret (results_none rfl _ _ _) rfl ?_
    exact ⟨⟨_, rfl⟩, .inr ⟨_, by rw [← HX.out]; exact List.take_prefix _ _, hJx3⟩⟩
  ·obtain rfl : k = len := by omega
   gi_wp2
   go_end0
   exact ⟨⟨_, rfl⟩, .inl ⟨_, by rw [List.take_of_length_le (by rw [HL.out]; omega)], hJs⟩⟩
theorem pairs_in (F : Fence) (n : Nat) (hF : F.fn 101) (hro : F.round = none) (A : Option Addr) (len cap : Nat) (w : World) :
  CallsIn F n Tryd.prog 101 #[.slice A len cap] w fun e w' => e = .returned (.func (.func 133) #[] #[.pointer (some ⟨w.heap.size, 0, none⟩)]) ∧ w' = w.alloc (.cells #[.slice A len cap] 27) := by
 refine callsIn_of_wp Tryd.func101 rfl hF ?_ hro
 simp only [Tryd.ntmps101, List.size_toArray, List.length_cons, List.length_nil, Nat.reduceAdd, Nat.reduceSub, Array.replicate_succ, Array.replicate_zero, List.push_toArray, List.append_toArray, List.nil_append, List.cons_append]
 gi_wp2
 go_ret
 exact ⟨rfl, rfl⟩
theorem pairs_stops (F : Fence) (n : Nat) (hF : F.fn 133) (hro : F.round = none) (hn : 1 ≤ n) (Bs n₀ : Nat) (A : Option Addr) (len cap : Nat) (zs : List Reg) (hreach : len ≤ 1000000) (hl : zs.length = len) (w : World) (hBs : Bs < w.heap.size) (hn₀ : n₀ ≤ w.heap.size)
  (hc : w.cell? ⟨Bs, 0, none⟩ = some (.slice A len cap)) (hR : RdI w n₀ .u16 A (zs.map (·.1))) :
  SeqStopsK F n Tryd.prog 133 #[.pointer (some ⟨Bs, 0, none⟩)] pairV (Below n₀) (fun ys => ys = zs) (fun pre => pre <+: zs) len w := fun l J Jx W hW _ _ hY h0 =>
 pairs1_in F n hF hro hn l Bs n₀ A len cap zs hreach hl J Jx hY W ((hW.cell (p := ⟨Bs, 0, none⟩) hBs).trans hc) (hR.below (hW.mono hn₀)) h0
def bytesOf (l : List Reg) : List Int := l.flatMap fun x => [x.1 / 256, x.1 % 256]
theorem bytesOf_snoc (l : List Reg) (x : Reg) : bytesOf (l ++ [x]) = bytesOf l ++ [x.1 / 256, x.1 % 256] := by simp [bytesOf]
theorem bytesOf_len (l : List Reg) : (bytesOf l).length = 2 * l.length := by
 induction l with
 | nil => rfl
 | cons a l ih => simp [bytesOf] at ih ⊢; omega
theorem infoB : (Tryd.prog.info? 5).map (fun i => (i.zero, i.size, i.bytes)) = some (some (.int .u8 0), 1, 1) := by kernel_rfl
theorem bytes_in (F : Fence) (n : Nat) (h1F : F.fn 65) (h2F : F.fn 101) (h3F : F.fn 133) (hro : F.round = none) (hn : 3 ≤ n) (A : Option Addr) (len cap : Nat) (zs : List Reg) (hreach : len ≤ 1000000) (hl : zs.length = len) (w : World) (hR : RdI w w.heap.size .u16 A (zs.map (·.1))) :
  CallsIn F n Tryd.prog 65 #[.slice A len cap] w fun e W' => ∃ v, e = .returned v ∧ W'.ownsRow w.heap.size 5 1 v (bytesOf zs).length ((bytesOf zs).map (Value.int .u8)) ∧ Below w.heap.size w W' := by
 have h1 : 1 ≤ n := by omega
 have HR := Lib.hid hR
 have HL := Lib.hid hl
 clear hR hl
 obtain ⟨i0, hi, hz0, hz1, hz2⟩ := info_parts infoB
 refine callsIn_of_wp_marks Tryd.func65 rfl h1F ?_ hro
 simp only [Tryd.ntmps65, List.size_toArray, List.length_cons, List.length_nil, Nat.reduceAdd, Nat.reduceSub, Array.replicate_succ, Array.replicate_zero, List.push_toArray, List.append_toArray, List.nil_append, List.cons_append]
 gi_wp2_with (gi_at_call 101; refine (pairs_in F (n - 1) h2F hro A len cap _).mono ?_; rintro e w' ⟨rfl, rfl⟩)
 have bO := Boxed.new w 22 (.slice none 0 0)
 have bN := Boxed.new (w.alloc (.cells #[.slice none 0 0] 22)) 27 (.slice A len cap)
 rw [World.size_alloc] at bN
 have hB0 : Below w.heap.size w ((w.alloc (.cells #[.slice none 0 0] 22)).alloc (.cells #[.slice A len cap] 27)) := ((Below.refl _ w).alloc (Nat.le_refl _) _).alloc (by simp) _
 refine wpIn_rangeFunc_ownH hro h1 (gf := 133) (lb := #[.pointer (some ⟨w.heap.size + 1, 0, none⟩)]) rfl h3F (enters_of Tryd.func133 (by kernel_rfl) rfl)
  (pairs_stops F (n - 1) h3F hro (by omega) (w.heap.size + 1) w.heap.size A len cap zs hreach HL.out _ (by simp) (by simp; omega) bN.cell (HR.out.below hB0)) belowK_t (belowK_b (by simp; omega)) (Below.refl _ _) (fun _ => rfl)
  (fun pre W => (∃ v, Boxed W w.heap.size 22 v ∧ W.ownsRow w.heap.size 5 1 v (bytesOf pre).length ((bytesOf pre).map (Value.int .u8)) ∧ True) ∧ Below w.heap.size w W)
  (fun _ _ _ => False)
  (OwnFrom.and (Own.from (holdsRow_own w.heap.size w.heap.size 22 5 1 (fun pre => (bytesOf pre).length) (fun pre => (bytesOf pre).map (Value.int .u8)) (fun _ _ => True)) _) (ownFrom_below (Nat.le_refl _) (by simp; omega)))
  (fun _ _ _ _ _ hs _ _ => hs)
  ⟨⟨_, bO.alloc _, World.ownsRow_nil _ _ _ _, trivial⟩, hB0⟩
  (fun x a' W => ∃ Bx, w.heap.size < Bx ∧ Held W Bx 175 #[.int .u8 (x.1 / 256), .int .u8 (x.1 % 256)] ∧
   a' = { tmps := #[.slice A len cap, undef, .slice none 0 0, .pointer (some ⟨w.heap.size, 0, none⟩), .pointer (some ⟨Bx, 0, none⟩), .slice A len cap, .func (.func 133) #[] #[.pointer (some ⟨w.heap.size + 1, 0, none⟩)], .agg #[.int .u8 (x.1 / 256), .int .u8 (x.1 % 256)], undef, undef, undef, undef], defers := [] })
  (fun x a' _ X Y row hs hg hr => by obtain ⟨Bx, e1, e2, e3⟩ := hs; exact ⟨Bx, e1, held_ownFrom () X Y row e2 hg hr, e3⟩) ?assign ?body ?done ?stop
 case assign =>
  rintro l pre x W K ⟨⟨v, hv, hrow, _⟩, hB⟩ hK
  have hlt := hv.lt
  unfold pairV
  gi_wp2
  exact hK _ _ ((KeepsOthers.alloc _ _).from _) ((Below.refl _ W).alloc hB.size _) ⟨⟨v, hv.alloc _, hrow.alloc _, trivial⟩, hB.alloc hB.size _⟩ ⟨W.heap.size, hlt, Held.new _ _ _, rfl⟩
 case body =>
  rintro l pre x a' W hl ⟨r, hr⟩ ⟨⟨v, hv, hrow, _⟩, hB⟩ ⟨Bx, hBx, hX, rfl⟩ hlt
  have hc := hv.cell
  have hsz := hB.size
  have hpl := bytesOf_len pre
  have HPL := Lib.hid hpl
  have HSN := Lib.hid (bytesOf_snoc pre x)
  obtain ⟨x, hx0, hx1⟩ := x
  dsimp only at hX HSN ⊢
  clear hpl
  gi_wp2
  refine wpIn_region_two (by kernel_rfl) [0, 1, 2, 3] [1, 0, 2, 3] (by kernel_rfl) ?_ ?_
  all_goals
   simp only [opsAt_cons, opsAt_nil, List.getElem?_toArray, List.getElem?_cons_succ, List.getElem?_cons_zero, Option.toList_some, List.cons_append, List.nil_append]
   gi_wp2_with (gi_at_builtin; refine wpListIn_append_own _ rfl _ _ 22 rfl w.heap.size 5 i0 (.int .u8 0) 1 1 Tryd.underlying22 hi hz0 hz1 hz2 rfl (by decide) _ _ _ rfl hrow.drew ⟨Bx, 0, none⟩ 2 2 [.int .u8 (x / 256), .int .u8 (x % 256)] rfl rfl (World.news_of_block (cs := #[.int .u8 (x / 256), .int .u8 (x % 256)]) (t := 175) (fr := (0, 0)) hX.drew) (by simp [Value.oneCell']) (by rw [HPL.out]; unfold maxLen; omega) (by rw [HPL.out]; omega) (by simp; omega) ?_; intro v' w1 hown' hgrow _; obtain ⟨g', cap', rfl⟩ := ownsRow_succ hown'; obtain ⟨hv1, hv2, hr2, hk2, hb2⟩ := boxed_appended (W := W) (w0 := W.drew) hv (by decide) hrow.drew hsz (Nat.le_refl _) (KeepsOthers.drew _) ((Below.refl _ _).drew) hown' hgrow; have hc1 := hv1.cell; have hf1 := hv1.frozen)
   exact ⟨hk2.from _, hb2, ⟨⟨_, hv2, by rw [HSN.out]; simpa using hr2, trivial⟩, hB.trans hb2⟩⟩
 case done =>
  rintro D ys W hD rfl ⟨⟨v, hv, hrow, _⟩, hB⟩ hK
  have hc := hv.cell
  gi_wp2
  refine ⟨by simp, .inl ⟨_, _, rfl, run_takeDeferred hK, ?_⟩⟩
  exact ⟨_, results_tmp rfl _ _ _, v, rfl, ownsRow_putObj hrow _ hK rfl, hB.trans (belowK_b (w := w) (Nat.le_refl _) W D _ _ (by simp at hD; omega) hK rfl rfl)⟩
 case stop =>
  rintro D c pre W _ _ h _
  exact h.elim
theorem bytes_any (A : Option Addr) (len cap : Nat) (zs : List Reg) (hreach : len ≤ 1000000) (hl : zs.length = len) (w : World) (hR : RdI w w.heap.size .u16 A (zs.map (·.1))) :
  Calls Tryd.prog 65 #[.slice A len cap] w fun e W' => ∃ v, e = .returned v ∧ W'.ownsRow w.heap.size 5 1 v (bytesOf zs).length ((bytesOf zs).map (Value.int .u8)) ∧ Below w.heap.size w W' :=
 (callsIn_wide (n := 5)).1 (bytes_in Fence.wide 5 trivial trivial trivial rfl (by omega) A len cap zs hreach hl w hR)
def pieceV (A : Option Addr) {m : Nat} (k : Fin m) : Array Value := #[.slice (A.map fun a => ⟨a.block, a.off + 2 * k.1, none⟩) 2 2]
theorem chunk1_in (F : Fence) (n : Nat) (hF : F.fn 137) (hro : F.round = none) (hn : 1 ≤ n) (l Bs Bn n₀ : Nat) (A : Option Addr) (len cap m : Nat) (hA : 0 < len → ∃ g off, A = some ⟨g, off, none⟩) (n₁ : Nat) (hreach : len ≤ 1000000) (hm : len = 2 * m) (hcap : len ≤ cap) (J Jx : List (Fin m) → World → Prop) (hJd : ∀ xs X, J xs X → J xs X.drew)
  (hY : ∀ pre x W, J pre W → pre.length < m → YieldAt F (n - 1) Tryd.prog l (pieceV A x) W fun e W' =>
   (e = .returned (.bool true) ∧ J (pre ++ [x]) W' ∧ Kx n₀ n₁ W W') ∨ (e = .returned (.bool false) ∧ Jx (pre ++ [x]) W'))
  (W : World) (hBs : Bs < n₁) (hBn : Bn < n₁) (hBs' : Bs ≠ n₀) (hBn' : Bn ≠ n₀) (hcs : W.cell? ⟨Bs, 0, none⟩ = some (.slice A len cap)) (hcn : W.cell? ⟨Bn, 0, none⟩ = some (.int .i64 2)) (h0 : J [] W) :
  CallsIn F n Tryd.prog 137 #[.func (.yield l) #[] #[], .pointer (some ⟨Bs, 0, none⟩), .pointer (some ⟨Bn, 0, none⟩)] W fun e W' => (∃ v, e = .returned v) ∧
   ((∃ ys, ys = List.finRange m ∧ J ys W') ∨ (∃ pre, pre <+: List.finRange m ∧ Jx pre W')) := by
 have HM := Lib.hid hm
 clear hm
 refine callsIn_of_wp Tryd.func137 rfl hF ?_ hro
 simp only [Tryd.ntmps137, List.size_toArray, List.length_cons, List.length_nil, Nat.reduceAdd, Nat.reduceSub, Array.replicate_succ, Array.replicate_zero, List.push_toArray, List.append_toArray, List.nil_append, List.cons_append]
 gi_wp2
 gi_loopw [4] (fun i wr => ∃ k s : Nat, k ≤ m ∧ s = 2 * k ∧ i = .int .i64 (s : Int) ∧ J ((List.finRange m).take k) wr ∧ Kx n₀ n₁ W wr)
  (fun i _ => len - (intOf i).toNat)
 case atStart => exact ⟨0, 0, Nat.zero_le _, rfl, rfl, by simpa using h0, Kx.refl _ _ _⟩
 case round =>
  obtain ⟨k, s, hk, hs, rfl, hJs, hnx⟩ := hrel
  have HS := Lib.hid hs
  have HMM := HM.out
  have c1 := (hnx.cell (p := ⟨Bs, 0, none⟩) hBs' hBs).trans hcs
  have c2 := (hnx.cell (p := ⟨Bn, 0, none⟩) hBn' hBn).trans hcn
  by_cases hlt : k < m
  ·obtain ⟨g, off, rfl⟩ := hA (by omega)
   have hk2 : s < len := by omega
   have hk3 : s + 2 ≤ len := by omega
   have hcap2 : s + 2 ≤ cap := by omega
   have hs1 : (0 : Int) ≤ (s : Int) := by omega
   have hs2 : (s : Int) ≤ (len : Int) := by omega
   have hs3 : (s : Int) ≤ (cap : Int) := by omega
   obtain ⟨fn, tmps, assign, body, hy, hR⟩ := hY _ ⟨k, hlt⟩ wr.drew (hJd _ _ hJs) (by rw [List.length_take, List.length_finRange]; omega)
   have HX := Lib.hid (show (List.finRange m).take (k + 1) = (List.finRange m).take k ++ [⟨k, hlt⟩] by rw [List.take_add_one, List.getElem?_eq_getElem (by rw [List.length_finRange]; exact hlt), List.getElem_finRange]; rfl)
   unfold pieceV at hy
   dsimp only [Option.map] at hy
   rw [← hs] at hy
   clear hs HMM
   gi_wp2
   refine wpIn_region_orders (by kernel_rfl) [[0, 1, 2, 3, 4, 5, 6], [0, 2, 1, 3, 4, 5, 6], [1, 0, 2, 3, 4, 5, 6], [1, 2, 0, 3, 4, 5, 6], [1, 2, 3, 0, 4, 5, 6], [1, 2, 3, 4, 0, 5, 6], [2, 0, 1, 3, 4, 5, 6], [2, 1, 0, 3, 4, 5, 6], [2, 1, 3, 0, 4, 5, 6], [2, 1, 3, 4, 0, 5, 6]] (by kernel_rfl) ?_
   intro o ho
   simp only [List.mem_cons, List.not_mem_nil, or_false] at ho
   rcases ho with rfl | rfl | rfl | rfl | rfl | rfl | rfl | rfl | rfl | rfl
   all_goals
    simp only [opsAt_cons, opsAt_nil, List.getElem?_toArray, List.getElem?_cons_succ, List.getElem?_cons_zero, Option.toList_some, List.cons_append, List.nil_append]
    gi_wp2
    refine hR.mono ?_
    rintro e W3 (⟨rfl, hJ3, hk3⟩ | ⟨rfl, hJx3⟩)
    ·have c3 : W3.cell? ⟨Bn, 0, none⟩ = some (.int .i64 2) := (hk3.cell (p := ⟨Bn, 0, none⟩) hBn' hBn).trans c2
     gi_wp2
     go_roundw
     case rel => exact ⟨k + 1, s + 2, by omega, by have := HS.out; omega, by go_num, by rw [HX.out]; exact hJ3, hnx.trans ((Kx.refl _ _ wr).drew.trans hk3)⟩
     case measure => simp [intOf]; omega
    ·gi_wp2
     refine bodyPost_ret (results_none rfl _ _ _) rfl ?_
     exact ⟨⟨_, rfl⟩, .inr ⟨_, by rw [← HX.out]; exact List.take_prefix _ _, hJx3⟩⟩
  ·obtain rfl : k = m := by omega
   have hs0 : ¬ (s < len) := by omega
   clear HMM hs
   gi_wp2
   go_end0
   exact ⟨⟨_, rfl⟩, .inl ⟨_, by rw [List.take_of_length_le (by rw [List.length_finRange]; omega)], hJs⟩⟩
theorem chunk_in (F : Fence) (n : Nat) (hF : F.fn 106) (hro : F.round = none) (A : Option Addr) (len cap : Nat) (w : World) :
  CallsIn F n Tryd.prog 106 #[.slice A len cap, .int .i64 2] w fun e w' => e = .returned (.func (.func 137) #[] #[.pointer (some ⟨w.heap.size, 0, none⟩), .pointer (some ⟨w.heap.size + 1, 0, none⟩)]) ∧ w' = (w.alloc (.cells #[.slice A len cap] 22)).alloc (.cells #[.int .i64 2] 3) := by
 refine callsIn_of_wp Tryd.func106 rfl hF ?_ hro
 simp only [Tryd.ntmps106, List.size_toArray, List.length_cons, List.length_nil, Nat.reduceAdd, Nat.reduceSub, Array.replicate_succ, Array.replicate_zero, List.push_toArray, List.append_toArray, List.nil_append, List.cons_append]
 gi_wp2
 go_ret
 exact ⟨rfl, rfl⟩
theorem chunk_stops (F : Fence) (n : Nat) (hF : F.fn 137) (hro : F.round = none) (hn : 1 ≤ n) (Bs Bn n₀ : Nat) (A : Option Addr) (len cap m n₁ : Nat) (hA : 0 < len → ∃ g off, A = some ⟨g, off, none⟩) (hreach : len ≤ 1000000) (hm : len = 2 * m) (hcap : len ≤ cap) (w : World) (hBs : Bs < n₁) (hBn : Bn < n₁) (hBs' : Bs ≠ n₀) (hBn' : Bn ≠ n₀) (hn₁ : n₁ ≤ w.heap.size)
  (hc : w.cell? ⟨Bs, 0, none⟩ = some (.slice A len cap)) (hc2 : w.cell? ⟨Bn, 0, none⟩ = some (.int .i64 2)) :
  SeqStopsK F n Tryd.prog 137 #[.pointer (some ⟨Bs, 0, none⟩), .pointer (some ⟨Bn, 0, none⟩)] (pieceV (m := m) A) (Kx n₀ n₁) (fun ys => ys = List.finRange m) (fun pre => pre <+: List.finRange m) m w := fun l J Jx W hW hJ _ hY h0 =>
 chunk1_in F n hF hro hn l Bs Bn n₀ A len cap m hA n₁ hreach hm hcap J Jx (fun xs X h => hJ xs X X.drew none h ⟨rfl, rfl, rfl, Nat.le_refl _, fun _ _ _ => rfl⟩ (by simp)) hY W hBs hBn hBs' hBn' ((hW.cell (p := ⟨Bs, 0, none⟩) (by show Bs < _; omega)).trans hc) ((hW.cell (p := ⟨Bn, 0, none⟩) (by show Bn < _; omega)).trans hc2) h0
def wordK (xs : List Int) {m : Nat} (k : Fin m) : Int := xs.getD (2 * k.1) 0 * 256 + xs.getD (2 * k.1 + 1) 0
def wordsK (xs : List Int) {m : Nat} (pre : List (Fin m)) : List Int := pre.map (wordK xs)
theorem infoW : (Tryd.prog.info? 45).map (fun i => (i.zero, i.size, i.bytes)) = some (some (.int .u16 0), 1, 2) := by kernel_rfl
def SB (g o : Nat) (y1 y2 : Int) (w' : World) : Prop := w'.cell? ⟨g, o, none⟩ = some (.int .u8 y1) ∧ w'.cell? ⟨g, o + 1, none⟩ = some (.int .u8 y2)
theorem SB.alloc {g o : Nat} {y1 y2 : Int} {W : World} (h : SB g o y1 y2 W.drew) (hg : g < W.heap.size) (ob : Obj) : SB g o y1 y2 (W.alloc ob).drew :=
 ⟨((Below.refl _ W).alloc (Nat.le_refl _) ob).cell (p := ⟨g, o, none⟩) hg |>.trans h.1, ((Below.refl _ W).alloc (Nat.le_refl _) ob).cell (p := ⟨g, o + 1, none⟩) hg |>.trans h.2⟩
theorem or_word (a b : Int) (ha : 0 ≤ a) (ha' : a < 256) (hb : 0 ≤ b) (hb' : b < 256) : bits BinOp.or IntKind.u16 (a * 256) b = a * 256 + b := by
 obtain ⟨a, rfl⟩ := Int.eq_ofNat_of_zero_le ha
 obtain ⟨b, rfl⟩ := Int.eq_ofNat_of_zero_le hb
 have e : (a : Int) * 256 = ((a * 256 : Nat) : Int) := by omega
 rw [e, u16_or_nat _ _ (by omega) (by omega), nat_join 8 _ _ (by omega) (by omega)]
 omega
def frameF (A : Option Addr) (len cap n₀ : Nat) (x : Option Addr) : Act := { tmps := #[.slice A len cap, undef, .slice none 0 0, .int .i64 0, .pointer (some ⟨n₀, 0, none⟩), .slice x 2 2, .slice A len cap, .int .i64 len, .int .i64 ((len : Int) % 2), .bool false, .slice A len cap, .func (.func 137) #[] #[.pointer (some ⟨n₀ + 1, 0, none⟩), .pointer (some ⟨n₀ + 2, 0, none⟩)], .slice x 2 2, undef, undef, undef, undef, undef, undef, undef, undef, undef, undef, undef, undef, undef, undef], defers := [] }
theorem frombytes_in (A : Option Addr) (len cap m : Nat) (xs : List Int) (hreach : len ≤ 1000000) (hm : len = 2 * m) (hcap : len ≤ cap) (hl : xs.length = len) (hx : ∀ x ∈ xs, 0 ≤ x ∧ x < 256) (w : World) (hR : RdI w w.heap.size .u8 A xs) :
  CallsIn Fence.wide 5 Tryd.prog 69 #[.slice A len cap] w fun e W' => ∃ v, e = .returned (.tuple #[v, .int .i64 0]) ∧ W'.ownsRow w.heap.size 45 1 v m ((wordsK xs (List.finRange m)).map (Value.int .u16)) ∧ Below w.heap.size w W' := by
 have hA : 0 < len → ∃ g off, A = some ⟨g, off, none⟩ := fun h => by
  obtain ⟨g, off, x, hg, _⟩ := hR.at_ (i := 0) (by omega)
  exact ⟨g, off, hg⟩
 have HR := Lib.hid hR
 have HL := Lib.hid hl
 have HM := Lib.hid hm
 have HXX := Lib.hid hx
 have hodd : ((len : Int).tmod 2 != 0) = false := by
  rw [Int.tmod_eq_emod_of_nonneg (by omega)]; simp; omega
 have hodd2 : ((len : Int) % 2 != 0) = false := by simp; omega
 have h2F : Fence.wide.fn 106 := trivial
 have h3F : Fence.wide.fn 137 := trivial
 have hro : Fence.wide.round = none := rfl
 clear hR hl hm hx
 obtain ⟨i0, hi, hz0, hz1, hz2⟩ := info_parts infoW
 refine callsIn_of_wp_marks Tryd.func69 rfl trivial ?_ rfl
 simp only [Tryd.ntmps69, List.size_toArray, List.length_cons, List.length_nil, Nat.reduceAdd, Nat.reduceSub, Array.replicate_succ, Array.replicate_zero, List.push_toArray, List.append_toArray, List.nil_append, List.cons_append]
 gi_wp2_with (gi_at_call 106; refine (chunk_in Fence.wide 4 trivial rfl _ len cap _).mono ?_; rintro e w' ⟨rfl, rfl⟩)
 have bO := Boxed.new w 27 (.slice none 0 0)
 have hs1 : (w.alloc (.cells #[.slice none 0 0] 27)).heap.size = w.heap.size + 1 := World.size_alloc _ _
 have bS := Boxed.new (w.alloc (.cells #[.slice none 0 0] 27)) 22 (.slice A len cap)
 rw [hs1] at bS
 have bN := Boxed.new ((w.alloc (.cells #[.slice none 0 0] 27)).alloc (.cells #[.slice A len cap] 22)) 3 (.int .i64 2)
 rw [World.size_alloc, hs1] at bN
 have hB0 : Below w.heap.size w (((w.alloc (.cells #[.slice none 0 0] 27)).alloc (.cells #[.slice A len cap] 22)).alloc (.cells #[.int .i64 2] 3)) := (((Below.refl _ w).alloc (Nat.le_refl _) _).alloc (by simp) _).alloc (by simp; omega) _
 refine wpIn_rangeFunc_ownH hro (by omega) (gf := 137) (lb := #[.pointer (some ⟨w.heap.size + 1, 0, none⟩), .pointer (some ⟨w.heap.size + 2, 0, none⟩)]) rfl h3F (enters_of Tryd.func137 (by kernel_rfl) rfl)
  (chunk_stops Fence.wide 4 h3F hro (by omega) (w.heap.size + 1) (w.heap.size + 2) w.heap.size A len cap m (w.heap.size + 3) hA hreach HM.out hcap _ (by omega) (by omega) (by omega) (by omega) (by simp) (bS.alloc _).cell bN.cell) Kx.trans (fun W l o o' hl ho h1 h2 => Kx.of_below (belowK_b (w := (((w.alloc (.cells #[.slice none 0 0] 27)).alloc (.cells #[.slice A len cap] 22)).alloc (.cells #[.int .i64 2] 3))) (by simp) W l o o' hl ho h1 h2) (by omega)) (Below.refl _ _) (fun _ => rfl)
  (fun pre W => (∃ v, Boxed W w.heap.size 27 v ∧ W.ownsRow (w.heap.size + 3) 45 1 v (wordsK (m := m) xs pre).length ((wordsK xs pre).map (Value.int .u16)) ∧ True) ∧ Below w.heap.size w W)
  (fun _ _ _ => False)
  ?own (fun _ _ _ _ _ hs _ _ => hs)
  ⟨⟨_, (bO.alloc _).alloc _, World.ownsRow_nil _ _ _ _, trivial⟩, hB0⟩
  (fun x a' _ => a' = frameF A len cap w.heap.size (A.map fun a => ⟨a.block, a.off + 2 * x.1, none⟩))
  (fun x a' _ X Y row hs hg hr => hs) ?assign ?body ?done ?stop
 case own => exact OwnFrom.and (Own.from (holdsRow_own (w.heap.size + 3) w.heap.size 27 45 1 (fun pre => (wordsK (m := m) xs pre).length) (fun pre => (wordsK xs pre).map (Value.int .u16)) (fun _ _ => True)) _) (ownFrom_below (Nat.le_refl _) (by simp; omega))
 case assign =>
  rintro l pre x W K ⟨⟨v, hv, hrow, _⟩, hB⟩ hK
  unfold pieceV
  gi_wp2
  exact hK _ _ ((KeepsOthers.refl _).from _) (Kx.refl _ _ _) ⟨⟨v, hv, hrow, trivial⟩, hB⟩ rfl
 case body =>
  rintro l pre x a' W hl ⟨r, hr⟩ ⟨⟨v, hv, hrow, _⟩, hB⟩ rfl hlt
  obtain ⟨k, hk⟩ := x
  have hlen := HM.out
  have hxl := HL.out
  obtain ⟨g, off, y1, rfl, hgb, hy1, hc1⟩ := (HR.out.below hB).at_ (i := 2 * k) (by omega)
  obtain ⟨g', off', y2, hg', _, hy2, hc2⟩ := (HR.out.below hB).at_ (i := 2 * k + 1) (by omega)
  injection hg' with hg'; injection hg' with hg' ho'; subst hg'; subst ho'
  obtain ⟨b1, b2⟩ := HXX.out y1 (List.mem_of_getElem? hy1)
  obtain ⟨b3, b4⟩ := HXX.out y2 (List.mem_of_getElem? hy2)
  have hW : wordK xs (⟨k, hk⟩ : Fin m) = y1 * 256 + y2 := by simp [wordK, List.getD, hy1, hy2]
  have hor := or_word y1 y2 b1 b2 b3 b4
  have w1 : IntKind.u16.wrap y1 = y1 := IntWalk.u16_in _ (by omega)
  have w2 : IntKind.u16.wrap y2 = y2 := IntWalk.u16_in _ (by omega)
  have w3 : IntKind.u16.wrap (y1 * 256) = y1 * 256 := IntWalk.u16_in _ (by omega)
  have HW := Lib.hid hW
  have hco := hv.cell
  have hSW : SB g (off + 2 * k) y1 y2 W.drew := ⟨hc1, hc2⟩
  have hsz := hB.size
  have hgW : g < W.heap.size := by omega
  have hmm : m ≤ 1000000 := by omega
  have hW3 : w.heap.size + 3 ≤ W.heap.size := by
   have := (Array.getElem?_eq_some_iff.1 hr).1
   simp at hl
   omega
  have hwl : (wordsK xs pre).length = pre.length := by simp [wordsK]
  clear hW hy1 hy2 hc1 hc2 hlen hxl
  unfold frameF
  simp only [Option.map]
  gi_wp2
  refine round_region_held (SB g (off + 2 * k) y1 y2) (by kernel_rfl) (by kernel_rfl) (ownPostG_notOut _) ?_
  refine wpAnyH_take (i := 1) (v := ?v1) rfl (by kernel_rfl) (by kernel_rfl) (by kernel_rfl) (fun _ _ _ h => h) (Or.inl ⟨by rfl, ?y1⟩) (by assumption) ?r1
  case y1 =>
   rintro w ⟨hc1, hc2⟩
   go_simp
   with_reducible rfl
  simp only [Act.put]
  refine wpAnyH_take (i := 2) (v := ?v2) rfl (by kernel_rfl) (by kernel_rfl) (by kernel_rfl) (fun _ _ _ h => h) (Or.inl ⟨by rfl, ?y2⟩) (by assumption) ?r2
  case y2 =>
   rintro w ⟨hc1, hc2⟩
   go_simp
   with_reducible rfl
  simp only [Act.put]
  refine wpAnyH_take (i := 3) (v := ?v3) rfl (by kernel_rfl) (by kernel_rfl) (by kernel_rfl) (fun _ _ _ h => h) (Or.inl ⟨by rfl, ?y3⟩) (by assumption) ?r3
  case y3 =>
   rintro w ⟨hc1, hc2⟩
   go_simp
   with_reducible rfl
  simp only [Act.put]
  refine wpAnyH_take (i := 4) (v := ?v4) rfl (by kernel_rfl) (by kernel_rfl) (by kernel_rfl) (fun _ _ _ h => h) (Or.inl ⟨by rfl, ?y4⟩) (by assumption) ?r4
  case y4 =>
   rintro w ⟨hc1, hc2⟩
   go_simp
   with_reducible rfl
  simp only [Act.put]
  refine wpAnyH_take (i := 5) (v := ?v5) rfl (by kernel_rfl) (by kernel_rfl) (by kernel_rfl) (fun _ _ _ h => h) (Or.inl ⟨by rfl, ?y5⟩) (by assumption) ?r5
  case y5 =>
   rintro w ⟨hc1, hc2⟩
   go_simp
   with_reducible rfl
  simp only [Act.put]
  refine wpAnyH_take (i := 6) (v := ?v6) rfl (by kernel_rfl) (by kernel_rfl) (by kernel_rfl) (fun _ _ _ h => h) (Or.inl ⟨by rfl, ?y6⟩) (by assumption) ?r6
  case y6 =>
   rintro w ⟨hc1, hc2⟩
   go_simp
   with_reducible rfl
  simp only [Act.put]
  refine wpAnyH_take (i := 7) (v := ?v7) rfl (by kernel_rfl) (by kernel_rfl) (by kernel_rfl) (fun _ _ _ h => h) (Or.inl ⟨by rfl, ?y7⟩) (by assumption) ?r7
  case y7 =>
   rintro w ⟨hc1, hc2⟩
   go_simp
   with_reducible rfl
  simp only [Act.put]
  refine wpAnyH_take (i := 8) (v := ?v8) rfl (by kernel_rfl) (by kernel_rfl) (by kernel_rfl) (fun _ _ _ h => h) (Or.inl ⟨by rfl, ?y8⟩) (by assumption) ?r8
  case y8 =>
   rintro w ⟨hc1, hc2⟩
   go_simp
   with_reducible rfl
  simp only [Act.put]
  refine wpAnyH_take (i := 9) (v := ?v9) rfl (by kernel_rfl) (by kernel_rfl) (by kernel_rfl) (fun _ _ _ h => h) (Or.inl ⟨by rfl, ?y9⟩) (by assumption) ?r9
  case y9 =>
   rintro w ⟨hc1, hc2⟩
   go_simp
   with_reducible rfl
  simp only [Act.put]
  refine wpAnyH_take (i := 10) (v := ?v10) rfl (by kernel_rfl) (by kernel_rfl) (by kernel_rfl) (fun _ _ _ h => h) (Or.inl ⟨by rfl, ?y10⟩) (by assumption) ?r10
  case y10 =>
   rintro w ⟨hc1, hc2⟩
   go_simp
   with_reducible rfl
  simp only [Act.put]
  refine wpAnyH_ready (rs := [0, 11]) (by kernel_rfl) (by simp) ?_
  refine AllReadyH.cons rfl (fun K hK => ?_) (AllReadyH.cons rfl (fun K hK => ?_) AllReadyH.nil)
  ·go_simp
   refine hK.out _ _ hSW (fun hSL => ?_)
   clear hK K
   refine wpAnyH_ready (rs := [11]) (by kernel_rfl) (by simp) ?_
   refine AllReadyH.cons rfl (fun K hK => ?_) AllReadyH.nil
   go_simp
   refine hK.out _ _ (hSW.alloc hgW _) (fun hSL => ?_)
   clear hK K
   refine wpAnyH_ready (rs := [12]) (by kernel_rfl) (by simp) ?_
   refine AllReadyH.cons rfl (fun K hK => ?_) AllReadyH.nil
   refine step_append_lies _ (by rfl) _ _ _ (by rfl) (w.heap.size + 3) 45 i0 (.int .u16 0) 1 2 Tryd.underlying27 hi hz0 hz1 hz2 rfl (by decide) v (wordsK xs pre).length _ (by rfl) ((hrow.alloc _).drew)
    ⟨W.heap.size, 0, none⟩ 1 1 [.int .u16 (y1 * 256 + y2)] (by rfl) (by rfl) (World.news_of_block (cs := #[.int .u16 (y1 * 256 + y2)]) (t := 45) (fr := (0, 0)) (heap_alloc_new W _)) (by simp [Value.oneCell'])
    (by omega) (by unfold maxLen; omega) (by omega) (by simp; omega) (W.heap.size + 1) (by simp) ?_
   intro gg cc w1 hown' hgrow hat hlt2
   have hB1 : Below (w.heap.size + 3) W w1 := (((Below.refl _ W).alloc hW3 _).drew).grown hgrow (by simp; omega) (fun k hk => (hrow.lt k hk).1)
   have hv0 : Boxed (W.alloc (.cells #[.int .u16 (y1 * 256 + y2)] 45)).drew w.heap.size 27 v := hv.alloc _
   have hv1 : Boxed w1 w.heap.size 27 v := hv0.kept hgrow (hv0.not_row (by decide) ((hrow.alloc _).drew))
   have hr2 := hown'.kept (grownBy_setCell' w1 w.heap.size (.slice (some ⟨gg, 0, none⟩) ((wordsK xs pre).length + 1) cc)) (.inr (hv1.not_row (by decide) hown').symm)
   have hv2 := hv1.set (.slice (some ⟨gg, 0, none⟩) ((wordsK xs pre).length + 1) cc)
   have hk2 : KeepsOthers W w1 := ((KeepsOthers.alloc _ _).trans (KeepsOthers.drew _)).trans (KeepsOthers.of_grownBy hgrow fun j o ej hj => by
    rcases hrow.2 with ⟨rfl, _⟩ | ⟨g4, cap4, cur4, rfl, _, hgb4, _⟩
    ·simp [Value.ownBlock] at ej
    ·obtain rfl : g4 = j := by simpa [Value.ownBlock] using ej
     have h5 := (Lib.alloc_old W (.cells #[.int .u16 (y1 * 256 + y2)] 45) g4 (Array.getElem?_eq_some_iff.1 hgb4).1).trans hgb4
     have h6 : (W.alloc (.cells #[.int .u16 (y1 * 256 + y2)] 45)).heap[g4]? = some o := hj
     rw [h5] at h6; cases h6; rfl)
   have hc1 := hv1.cell
   have hf1 := hv1.frozen
   refine hK.out _ _ ⟨(hB1.cell (p := ⟨g, off + 2 * k, none⟩) (by show g < _; omega)).trans hSW.1, (hB1.cell (p := ⟨g, off + 2 * k + 1, none⟩) (by show g < _; omega)).trans hSW.2⟩ (fun hSL => ?_)
   clear hK K
   refine wpAnyH_ready (rs := [13]) (by kernel_rfl) (by simp) ?_
   refine AllReadyH.cons rfl (fun K hK => ?_) AllReadyH.nil
   go_simp
   have hKx := (Kx.of_below (n₀ := w.heap.size) hB1 (by omega)).set 0 (.slice (some ⟨gg, 0, none⟩) ((wordsK xs pre).length + 1) cc)
   rw [hwl] at hKx hv2 hr2
   refine hK.out _ _ ⟨(hKx.cell (p := ⟨g, off + 2 * k, none⟩) (by show g ≠ _; omega) (by show g < _; omega)).trans hSW.1, (hKx.cell (p := ⟨g, off + 2 * k + 1, none⟩) (by show g ≠ _; omega) (by show g < _; omega)).trans hSW.2⟩ (fun hSL => ?_)
   clear hK K
   refine wpAnyH_done (by kernel_rfl) ?_ _
   refine ⟨(hk2.trans (KeepsOthers.setCell _ _ _)).from _, hKx, ⟨_, hv2, ?_, trivial⟩, hB.trans hKx.1⟩
   have e1 : wordsK xs (pre ++ [(⟨k, hk⟩ : Fin m)]) = wordsK xs pre ++ [y1 * 256 + y2] := by rw [← HW.out]; simp [wordsK]
   rw [e1]
   simpa [hwl] using hr2
  ·go_simp
   refine hK.out _ _ (hSW.alloc hgW _) (fun hSL => ?_)
   clear hK K
   have hco2 := (hv.alloc (.cells #[.int .u16 (y1 * 256 + y2)] 45)).cell
   refine wpAnyH_ready (rs := [0]) (by kernel_rfl) (by simp) ?_
   refine AllReadyH.cons rfl (fun K hK => ?_) AllReadyH.nil
   go_simp
   refine hK.out _ _ (hSW.alloc hgW _) (fun hSL => ?_)
   clear hK K
   refine wpAnyH_ready (rs := [12]) (by kernel_rfl) (by simp) ?_
   refine AllReadyH.cons rfl (fun K hK => ?_) AllReadyH.nil
   refine step_append_lies _ (by rfl) _ _ _ (by rfl) (w.heap.size + 3) 45 i0 (.int .u16 0) 1 2 Tryd.underlying27 hi hz0 hz1 hz2 rfl (by decide) v (wordsK xs pre).length _ (by rfl) ((hrow.alloc _).drew)
    ⟨W.heap.size, 0, none⟩ 1 1 [.int .u16 (y1 * 256 + y2)] (by rfl) (by rfl) (World.news_of_block (cs := #[.int .u16 (y1 * 256 + y2)]) (t := 45) (fr := (0, 0)) (heap_alloc_new W _)) (by simp [Value.oneCell'])
    (by omega) (by unfold maxLen; omega) (by omega) (by simp; omega) (W.heap.size + 1) (by simp) ?_
   intro gg cc w1 hown' hgrow hat hlt2
   have hB1 : Below (w.heap.size + 3) W w1 := (((Below.refl _ W).alloc hW3 _).drew).grown hgrow (by simp; omega) (fun k hk => (hrow.lt k hk).1)
   have hv0 : Boxed (W.alloc (.cells #[.int .u16 (y1 * 256 + y2)] 45)).drew w.heap.size 27 v := hv.alloc _
   have hv1 : Boxed w1 w.heap.size 27 v := hv0.kept hgrow (hv0.not_row (by decide) ((hrow.alloc _).drew))
   have hr2 := hown'.kept (grownBy_setCell' w1 w.heap.size (.slice (some ⟨gg, 0, none⟩) ((wordsK xs pre).length + 1) cc)) (.inr (hv1.not_row (by decide) hown').symm)
   have hv2 := hv1.set (.slice (some ⟨gg, 0, none⟩) ((wordsK xs pre).length + 1) cc)
   have hk2 : KeepsOthers W w1 := ((KeepsOthers.alloc _ _).trans (KeepsOthers.drew _)).trans (KeepsOthers.of_grownBy hgrow fun j o ej hj => by
    rcases hrow.2 with ⟨rfl, _⟩ | ⟨g4, cap4, cur4, rfl, _, hgb4, _⟩
    ·simp [Value.ownBlock] at ej
    ·obtain rfl : g4 = j := by simpa [Value.ownBlock] using ej
     have h5 := (Lib.alloc_old W (.cells #[.int .u16 (y1 * 256 + y2)] 45) g4 (Array.getElem?_eq_some_iff.1 hgb4).1).trans hgb4
     have h6 : (W.alloc (.cells #[.int .u16 (y1 * 256 + y2)] 45)).heap[g4]? = some o := hj
     rw [h5] at h6; cases h6; rfl)
   have hc1 := hv1.cell
   have hf1 := hv1.frozen
   refine hK.out _ _ ⟨(hB1.cell (p := ⟨g, off + 2 * k, none⟩) (by show g < _; omega)).trans hSW.1, (hB1.cell (p := ⟨g, off + 2 * k + 1, none⟩) (by show g < _; omega)).trans hSW.2⟩ (fun hSL => ?_)
   clear hK K
   refine wpAnyH_ready (rs := [13]) (by kernel_rfl) (by simp) ?_
   refine AllReadyH.cons rfl (fun K hK => ?_) AllReadyH.nil
   go_simp
   have hKx := (Kx.of_below (n₀ := w.heap.size) hB1 (by omega)).set 0 (.slice (some ⟨gg, 0, none⟩) ((wordsK xs pre).length + 1) cc)
   rw [hwl] at hKx hv2 hr2
   refine hK.out _ _ ⟨(hKx.cell (p := ⟨g, off + 2 * k, none⟩) (by show g ≠ _; omega) (by show g < _; omega)).trans hSW.1, (hKx.cell (p := ⟨g, off + 2 * k + 1, none⟩) (by show g ≠ _; omega) (by show g < _; omega)).trans hSW.2⟩ (fun hSL => ?_)
   clear hK K
   refine wpAnyH_done (by kernel_rfl) ?_ _
   refine ⟨(hk2.trans (KeepsOthers.setCell _ _ _)).from _, hKx, ⟨_, hv2, ?_, trivial⟩, hB.trans hKx.1⟩
   have e1 : wordsK xs (pre ++ [(⟨k, hk⟩ : Fin m)]) = wordsK xs pre ++ [y1 * 256 + y2] := by rw [← HW.out]; simp [wordsK]
   rw [e1]
   simpa [hwl] using hr2
 case done =>
  rintro D ys W hD rfl ⟨⟨v, hv, hrow, _⟩, hB⟩ hK
  have hc := hv.cell
  gi_wp2
  refine ⟨by simp, .inl ⟨_, _, rfl, run_takeDeferred hK, ?_⟩⟩
  have hwl2 : (wordsK xs (List.finRange m)).length = m := by simp [wordsK]
  rw [hwl2] at hrow
  exact ⟨_, results_tmp2 rfl _ _ _, v, rfl, own_base (base' := w.heap.size) (ownsRow_putObj hrow _ hK rfl) (by omega), hB.trans (belowK_b (w := w) (Nat.le_refl _) W D _ _ (by simp at hD; omega) hK rfl rfl)⟩
 case stop =>
  rintro D c pre W _ _ h _
  exact h.elim
def OffB (W W' : World) (B : Nat) : Prop := W'.heap.size = W.heap.size ∧ ∀ k, k ≠ B → W'.heap[k]? = W.heap[k]?
theorem OffB.refl (W : World) (B : Nat) : OffB W W B := ⟨rfl, fun _ _ => rfl⟩
theorem OffB.set {W W' : World} {B : Nat} (h : OffB W W' B) (i : Nat) (v : Value) : OffB W (W'.setCell ⟨B, i, none⟩ v) B :=
 ⟨(by simpa [World.setCell] using h.1), fun k hk => (Below.heap_setCell W' ⟨B, i, none⟩ v k hk).trans (h.2 k hk)⟩
theorem held_mem {W : World} {B : Nat} {t : TypeId} {cs : Array Value} (h : Held W B t cs) {i : Nat} {v : Value} (hc : W.cell? ⟨B, i, none⟩ = some v) : v ∈ cs.toList := by
 rw [h.cell i] at hc
 exact Array.mem_toList_iff.2 (Array.mem_of_getElem? hc)
theorem SlB.off {W W' : World} {B : Nat} {t : TypeId} {cs : Array Value} {A : Option Addr} {n c : Nat} {xs : List Bool} (h : SlB W W.heap.size A n c xs) (o : OffB W W' B) (hH : Held W B t cs) (hcs : ∀ v ∈ cs.toList, ∀ x, v ≠ .bool x) : SlB W' W'.heap.size A n c xs := by
 refine ⟨h.1, h.2.1, h.2.2.1, h.2.2.2.1, fun hn => ?_⟩
 obtain ⟨g, off, e, hb, hc⟩ := h.2.2.2.2 hn
 have hg : g ≠ B := by
  rintro rfl
  exact hcs _ (held_mem hH (hc 0 _ (List.getElem?_eq_getElem hn))) _ rfl
 refine ⟨g, off, e, by rw [o.1]; exact hb, fun i x hx => ?_⟩
 rw [World.cell?_of_block (o.2 g hg)]
 exact hc i x hx
theorem SlI.off {W W' : World} {B : Nat} {t : TypeId} {cs : Array Value} {k : IntKind} {A : Option Addr} {n c : Nat} {xs : List Int} (h : SlI W W.heap.size k A n c xs) (o : OffB W W' B) (hH : Held W B t cs) (hcs : ∀ v ∈ cs.toList, ∀ x, v ≠ .int k x) : SlI W' W'.heap.size k A n c xs := by
 refine ⟨h.1, h.2.1, h.2.2.1, h.2.2.2.1, fun hn => ?_⟩
 obtain ⟨g, off, e, hb, hc⟩ := h.2.2.2.2 hn
 have hg : g ≠ B := by
  rintro rfl
  exact hcs _ (held_mem hH (hc 0 _ (List.getElem?_eq_getElem hn))) _ rfl
 refine ⟨g, off, e, by rw [o.1]; exact hb, fun i x hx => ?_⟩
 rw [World.cell?_of_block (o.2 g hg)]
 exact hc i x hx
theorem six {w0 W : World} {B0 B : Nat} {t : TypeId} {x0 x1 x2 x3 x4 x5 : Value} (hb : Below B0 w0 W) (hO : Held W B t #[x0, x1, x2, x3, x4, x5]) (hB : B0 ≤ B) (v0 v1 v2 v3 v4 v5 : Value) :
  ∃ wz, ((((((W.setCell ⟨B, 0, none⟩ v0).setCell ⟨B, 1, none⟩ v1).setCell ⟨B, 2, none⟩ v2).setCell ⟨B, 3, none⟩ v3).setCell ⟨B, 4, none⟩ v4).setCell ⟨B, 5, none⟩ v5) = wz ∧ Below B0 w0 wz ∧ Held wz B t #[v0, v1, v2, v3, v4, v5] ∧ OffB W wz B :=
 ⟨_, rfl, ((((((hb.setCell (p := ⟨B, 0, none⟩) hB _).setCell (p := ⟨B, 1, none⟩) hB _).setCell (p := ⟨B, 2, none⟩) hB _).setCell (p := ⟨B, 3, none⟩) hB _).setCell (p := ⟨B, 4, none⟩) hB _).setCell (p := ⟨B, 5, none⟩) hB _), ((((((hO.set 0 _).set 1 _).set 2 _).set 3 _).set 4 _).set 5 _), (((((((OffB.refl W B).set 0 _).set 1 _).set 2 _).set 3 _).set 4 _).set 5 _)⟩
theorem six_cells {W : World} {B : Nat} {t : TypeId} {v0 v1 v2 v3 v4 v5 : Value} (h : Held W B t #[v0, v1, v2, v3, v4, v5]) : W.cell? ⟨B, 0, none⟩ = some v0 ∧ W.cell? ⟨B, 1, none⟩ = some v1 ∧ W.cell? ⟨B, 2, none⟩ = some v2 ∧ W.cell? ⟨B, 3, none⟩ = some v3 ∧ W.cell? ⟨B, 4, none⟩ = some v4 ∧ W.cell? ⟨B, 5, none⟩ = some v5 :=
 ⟨h.cell 0, h.cell 1, h.cell 2, h.cell 3, h.cell 4, h.cell 5⟩
theorem four_cells {W : World} {B : Nat} {t : TypeId} {v0 v1 v2 v3 : Value} (h : Held W B t #[v0, v1, v2, v3]) : W.cell? ⟨B, 0, none⟩ = some v0 ∧ W.cell? ⟨B, 1, none⟩ = some v1 ∧ W.cell? ⟨B, 2, none⟩ = some v2 ∧ W.cell? ⟨B, 3, none⟩ = some v3 :=
 ⟨h.cell 0, h.cell 1, h.cell 2, h.cell 3⟩
theorem off_six {W X : World} {B C : Nat} {t : TypeId} {v0 v1 v2 v3 v4 v5 : Value} (h : Held W B t #[v0, v1, v2, v3, v4, v5]) (o : OffB W X C) (hn : B ≠ C) : X.cell? ⟨B, 0, none⟩ = some v0 ∧ X.cell? ⟨B, 1, none⟩ = some v1 ∧ X.cell? ⟨B, 2, none⟩ = some v2 ∧ X.cell? ⟨B, 3, none⟩ = some v3 ∧ X.cell? ⟨B, 4, none⟩ = some v4 ∧ X.cell? ⟨B, 5, none⟩ = some v5 := by
 have e : ∀ i, X.cell? ⟨B, i, none⟩ = W.cell? ⟨B, i, none⟩ := fun i => World.cell?_of_block (o.2 B hn)
 rw [e, e, e, e, e, e]
 exact six_cells h
end Go.Proofs.YtcipleanckeoaaaDoor
