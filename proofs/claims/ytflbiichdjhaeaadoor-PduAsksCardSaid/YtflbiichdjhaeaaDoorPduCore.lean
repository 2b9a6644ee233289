/- Requests and replies, in plain Lean. No program in sight. -/
import Derived.Test.YtflbiichdjhaeaaDoorPduPlain
namespace Go.Proofs.YtflbiichdjhaeaaDoor
open Go.RowKit

/-- A request. -/
structure AskP where
  fn : Int
  addr : Int
  count : Int
  to : Int
  bits : List Bool
  regs : List Int
deriving DecidableEq
/-- A reply. -/
structure RepP where
  fn : Int
  code : Int
  bits : List Bool
  regs : List Int
deriving DecidableEq
def ask0 : AskP := ⟨0, 0, 0, 0, [], []⟩
def rep0 : RepP := ⟨0, 0, [], []⟩

/-- How many a function reads, and how many bits and registers it writes, at most. -/
def limP (fn : Int) : Option (Int × Int × Int) :=
  if fn = 1 ∨ fn = 2 then some (2000, 0, 0)
  else if fn = 3 ∨ fn = 4 then some (125, 0, 0)
  else if fn = 5 then some (0, 1, 0)
  else if fn = 6 then some (0, 0, 1)
  else if fn = 15 then some (0, 1968, 0)
  else if fn = 16 then some (0, 0, 123)
  else if fn = 23 then some (125, 0, 121)
  else none
def fitP (n most : Int) : Bool := decide (min 1 most ≤ n) && decide (n ≤ most)
/-- May a request be? -/
def longP (a : AskP) : Int := if a.fn = 5 ∨ a.fn = 6 ∨ a.fn = 15 ∨ a.fn = 16 then (a.bits.length : Int) + a.regs.length else a.count
def limitsP (a : AskP) : Bool :=
  match limP a.fn with
  | none => false
  | some (r, b, g) => fitP a.count r && fitP a.bits.length b && fitP a.regs.length g
def placeP (a : AskP) : Bool := decide (0 ≤ a.addr) && decide (0 ≤ a.to) && decide (a.addr ≤ 65535) && decide (a.to ≤ 65535) && (decide (a.to = 0) || decide (a.fn = 23)) && decide (a.addr + longP a ≤ 65536) && (decide (a.fn ≠ 23) || decide (a.to + a.regs.length ≤ 65536))
def mayP (a : AskP) : Bool := limitsP a && placeP a

def twoI (n : Int) : List Int := [n / 256, n % 256]
def twosI (l : List Int) : List Int := l.flatMap twoI
theorem twoI_len (n : Int) : (twoI n).length = 2 := rfl
theorem twosI_len (l : List Int) : (twosI l).length = 2 * l.length := by
  induction l with
  | nil => rfl
  | cons a l ih => simp only [twosI, List.flatMap_cons, List.length_append, List.length_cons, twoI_len] at ih ⊢; omega
theorem twosI_snoc (l : List Int) (x : Int) : twosI (l ++ [x]) = twosI l ++ twoI x := by simp [twosI]
theorem twosI_append (l m : List Int) : twosI (l ++ m) = twosI l ++ twosI m := by simp [twosI]
/-- A request's bytes. -/
def bytesP (a : AskP) : List Int :=
  if a.fn = 5 then a.fn :: twoI a.addr ++ (if a.bits.getD 0 false then [255, 0] else [0, 0])
  else if a.fn = 6 then a.fn :: twoI a.addr ++ twoI (a.regs.getD 0 0)
  else if a.fn = 15 then a.fn :: twoI a.addr ++ twoI a.bits.length ++ ((packN a.bits).length : Int) :: packN a.bits
  else if a.fn = 16 then a.fn :: twoI a.addr ++ twoI a.regs.length ++ (2 * a.regs.length : Int) :: twosI a.regs
  else if a.fn = 23 then a.fn :: twoI a.addr ++ twoI a.count ++ twoI a.to ++ twoI a.regs.length ++ (2 * a.regs.length : Int) :: twosI a.regs
  else a.fn :: twoI a.addr ++ twoI a.count
def askB (a : AskP) : Option (List Int) := if mayP a then some (bytesP a) else none

/-- The first bits of bytes. -/
def unpackP (b : List Int) (n : Nat) : List Bool := (List.range n).map (bitAt b)
/-- The number at a place. -/
def wordP (b : List Int) (i : Nat) : Int := b.getD i 0 * 256 + b.getD (i + 1) 0
/-- All of them. -/
def wordsP (b : List Int) : List Int := (List.range (b.length / 2)).map fun k => wordP b (2 * k)
theorem unpackP_len (b : List Int) (n : Nat) : (unpackP b n).length = n := by simp [unpackP]
theorem wordsP_len (b : List Int) : (wordsP b).length = b.length / 2 := by simp [wordsP]
/-- The request that bytes say, its limits kept. -/
def parseP (b : List Int) : Option AskP :=
  let f := b.getD 0 0
  let ad := wordP b 1
  let n := wordP b 3
  if b.length < 5 then none
  else if f = 5 then if b.length = 5 ∧ (n = 65280 ∨ n = 0) then some ⟨5, ad, 0, 0, [decide (n = 65280)], []⟩ else none
  else if f = 6 then if b.length = 5 then some ⟨6, ad, 0, 0, [], [n]⟩ else none
  else if f = 15 then if (1 ≤ n ∧ n ≤ 1968) ∧ 6 ≤ b.length ∧ b.getD 5 0 = (n + 7) / 8 ∧ (b.length : Int) = 6 + (n + 7) / 8 then some ⟨15, ad, 0, 0, unpackP (b.drop 6) n.toNat, []⟩ else none
  else if f = 16 then if (1 ≤ n ∧ n ≤ 123) ∧ 6 ≤ b.length ∧ b.getD 5 0 = 2 * n ∧ (b.length : Int) = 6 + 2 * n then some ⟨16, ad, 0, 0, [], wordsP (b.drop 6)⟩ else none
  else if f = 23 then if (1 ≤ n ∧ n ≤ 125) ∧ 10 ≤ b.length ∧ (1 ≤ wordP b 7 ∧ wordP b 7 ≤ 121) ∧ b.getD 9 0 = 2 * wordP b 7 ∧ (b.length : Int) = 10 + 2 * wordP b 7 then some ⟨23, ad, n, wordP b 5, [], wordsP (b.drop 10)⟩ else none
  else match limP f with
    | some (r, _, _) => if b.length = 5 ∧ fitP n r then some ⟨f, ad, n, 0, [], []⟩ else none
    | none => none
/-- What bytes are: a request, an exception's number, an error's. -/
def readP (b : List Int) : AskP × Int × Int :=
  if b.length = 0 ∨ 253 < b.length then (ask0, 0, 190)
  else match limP (b.getD 0 0) with
    | none => (ask0, 1, 190)
    | some _ => match parseP b with
      | none => (ask0, 3, 190)
      | some a => if mayP a then (a, 0, 0) else (ask0, 2, 190)

/-- A reply's bytes. -/
def wantB (a : AskP) : Int := if a.fn = 1 ∨ a.fn = 2 then a.count else 0
def wantR (a : AskP) : Int := if a.fn = 3 ∨ a.fn = 4 ∨ a.fn = 23 then a.count else 0
def answerP (a : AskP) (r : RepP) : Option (List Int) :=
  if mayP a = false ∨ r.fn ≠ a.fn then none
  else if r.code ≠ 0 then
    if r.code < 1 ∨ 11 < r.code ∨ 0 < r.bits.length + r.regs.length then none else some [a.fn + 128, r.code]
  else if (r.bits.length : Int) ≠ wantB a ∨ (r.regs.length : Int) ≠ wantR a then none
  else if a.fn = 1 ∨ a.fn = 2 then some (a.fn :: ((packN r.bits).length : Int) :: packN r.bits)
  else if a.fn = 5 ∨ a.fn = 6 then some (bytesP a)
  else if a.fn = 15 ∨ a.fn = 16 then some (a.fn :: twoI a.addr ++ twoI ((a.bits.length : Int) + a.regs.length))
  else some (a.fn :: (2 * r.regs.length : Int) :: twosI r.regs)
/-- The reply that bytes may be. -/
def guessR (a : AskP) (b : List Int) : RepP :=
  if b.getD 0 0 = a.fn + 128 then ⟨a.fn, b.getD 1 0, [], []⟩
  else if a.fn ≤ 2 then ⟨a.fn, 0, unpackP (b.drop 2) a.count.toNat, []⟩
  else if a.fn ≤ 4 ∨ a.fn = 23 then ⟨a.fn, 0, [], if b.length % 2 = 0 then wordsP (b.drop 2) else []⟩
  else ⟨a.fn, 0, [], []⟩
def readAnswerP (a : AskP) (b : List Int) : Option RepP :=
  if b.length < 2 then none else if answerP a (guessR a b) = some b then some (guessR a b) else none
end Go.Proofs.YtflbiichdjhaeaaDoor
