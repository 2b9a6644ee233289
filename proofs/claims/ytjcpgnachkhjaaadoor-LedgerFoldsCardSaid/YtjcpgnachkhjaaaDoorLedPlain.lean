/- Entries: as a structure, as cells; what entry.Check computes, in plain Lean. No program in sight. -/
import Derived.Test.YtjcpgnachkhjaaaDoorMem
import Derived.Test.YtjcpgnachkhjaaaDoorMemB
import Derived.Test.YtjcpgnachkhjaaaDoorBoxes
import Derived.Deep.MidRow
import Derived.Below
namespace Go.Proofs.YtjcpgnachkhjaaaDoor
open Go.RowKit

structure Ent where
  kind : Int
  meter : Int
  start : Int
  energy : Int
  band : Int
  price : Int
  cost : Int
  flags : Int
  count : Int
  seq : Int
  hash : List Int
deriving DecidableEq

def Ent.none (k : Int) : Ent := ⟨k, 0, 0, 0, 0, 0, 0, 0, 0, 0, List.replicate 32 0⟩
def Ent.cells (e : Ent) : List Value :=
  .int .i64 e.kind :: .int .i64 e.meter :: .int .i64 e.start :: .int .i64 e.energy :: .int .i64 e.band :: .int .i64 e.price :: .int .i64 e.cost :: .int .i64 e.flags :: .int .u32 e.count :: .int .u64 e.seq :: e.hash.map (Value.int .u8)
def Ent.arr (e : Ent) : Array Value := e.cells.toArray
/-- An entry as a variable can hold it. -/
def Ent.ok (e : Ent) : Prop :=
  IntKind.i64.wrap e.kind = e.kind ∧ IntKind.i64.wrap e.meter = e.meter ∧ IntKind.i64.wrap e.start = e.start ∧ IntKind.i64.wrap e.energy = e.energy ∧ IntKind.i64.wrap e.band = e.band ∧ IntKind.i64.wrap e.price = e.price ∧
  IntKind.i64.wrap e.cost = e.cost ∧ IntKind.i64.wrap e.flags = e.flags ∧ IntKind.u32.wrap e.count = e.count ∧ IntKind.u64.wrap e.seq = e.seq ∧ e.hash.length = 32 ∧ ∀ x ∈ e.hash, 0 ≤ x ∧ x < 256
theorem Ent.cells_len (e : Ent) (h : e.hash.length = 32) : e.cells.length = 42 := by simp [Ent.cells, h]
theorem Ent.arr_size (e : Ent) (h : e.hash.length = 32) : e.arr.size = 42 := by simp [Ent.arr, Ent.cells, h]

/-- A field's letter: m Meter 109, t Start 116, e Energy 101, b Band 98, p Price 112, c Cost 99, f Flags 102, n Count 110, s Seq 115, h Hash 104. -/
def fieldL (k : Int) : List Int :=
  if k = 1 then [109, 116, 101, 98, 112, 99, 102] else if k = 2 then [109, 116, 110] else if k = 3 then [109, 116, 110, 115, 104] else if k = 4 then [109, 98, 101, 99, 115, 104] else if k = 5 then [115, 104] else []
/-- A field's number, as get has it. -/
def getE (e : Ent) (f : Int) : Int :=
  if f = 109 then e.meter else if f = 116 then e.start else if f = 101 then e.energy else if f = 98 then e.band else if f = 112 then e.price else if f = 99 then e.cost else if f = 102 then e.flags else if f = 110 then e.count else IntKind.i64.wrap e.seq
/-- What set makes. -/
def setE (e : Ent) (f n : Int) : Ent :=
  if f = 109 then { e with meter := n } else if f = 116 then { e with start := n } else if f = 101 then { e with energy := n } else if f = 98 then { e with band := n } else if f = 112 then { e with price := n } else if f = 99 then { e with cost := n } else if f = 102 then { e with flags := n } else if f = 110 then { e with count := IntKind.u32.wrap n } else { e with seq := IntKind.u64.wrap n }
/-- A field's bounds. -/
def boundE (k f : Int) : Int × Int × Bool :=
  if f = 109 then (0, 63, true) else if f = 116 then (0, 253402300799, true) else if f = 101 ∨ f = 99 then ((if k = 4 then -4611686018427387904 else 0), 4611686018427387904, true) else if f = 98 then (0, 7, true) else if f = 112 then (0, 1073741824, true) else if f = 102 then (0, 15, true) else (0, 0, false)
def fitE (x : Ent) (f : Int) : Bool := !((boundE x.kind f).2.2) || (decide ((boundE x.kind f).1 ≤ getE x f) && decide (getE x f ≤ (boundE x.kind f).2.1))
/-- One round of Check: the copy, and whether it is fine. -/
def stepE (x : Ent) (s : Ent × Bool) (f : Int) : Ent × Bool :=
  if f = 104 then ({ s.1 with hash := x.hash }, s.2) else (setE s.1 f (getE x f), s.2 && fitE x f)
def foldE (x : Ent) (l : List Int) : Ent × Bool := l.foldl (stepE x) (Ent.none x.kind, decide (1 ≤ x.kind ∧ x.kind ≤ 5))
/-- Check's answer. -/
def okE (x : Ent) : Bool := (foldE x (fieldL x.kind)).2 && decide (x = (foldE x (fieldL x.kind)).1)

theorem ent_cells {W : World} {B : Nat} {t : TypeId} {e : Ent} (h : Held W B t e.arr) :
    W.cell? ⟨B, 0, none⟩ = some (.int .i64 e.kind) ∧ W.cell? ⟨B, 1, none⟩ = some (.int .i64 e.meter) ∧ W.cell? ⟨B, 2, none⟩ = some (.int .i64 e.start) ∧ W.cell? ⟨B, 3, none⟩ = some (.int .i64 e.energy) ∧ W.cell? ⟨B, 4, none⟩ = some (.int .i64 e.band) ∧
    W.cell? ⟨B, 5, none⟩ = some (.int .i64 e.price) ∧ W.cell? ⟨B, 6, none⟩ = some (.int .i64 e.cost) ∧ W.cell? ⟨B, 7, none⟩ = some (.int .i64 e.flags) ∧ W.cell? ⟨B, 8, none⟩ = some (.int .u32 e.count) ∧ W.cell? ⟨B, 9, none⟩ = some (.int .u64 e.seq) := by
  refine ⟨(h.cell 0).trans ?_, (h.cell 1).trans ?_, (h.cell 2).trans ?_, (h.cell 3).trans ?_, (h.cell 4).trans ?_, (h.cell 5).trans ?_, (h.cell 6).trans ?_, (h.cell 7).trans ?_, (h.cell 8).trans ?_, (h.cell 9).trans ?_⟩ <;> simp [Ent.arr, Ent.cells]
theorem ent_range {W : World} {B : Nat} {t : TypeId} {e : Ent} (h : Held W B t e.arr) : W.rangeAt B 0 e.cells := fun j v hv => by
  rw [Nat.zero_add, h.cell j]
  simpa [Ent.arr] using hv
theorem ent_hash {W : World} {B : Nat} {t : TypeId} {e : Ent} (h : Held W B t e.arr) : W.rangeAt B 10 (e.hash.map (Value.int .u8)) := fun j v hv => by
  rw [h.cell (10 + j)]
  have : e.cells[10 + j]? = (e.hash.map (Value.int .u8))[j]? := by
    rw [show 10 + j = j + 10 by omega]; rfl
  simp only [Ent.arr, List.getElem?_toArray, this, hv]

/-- What entry.May of the document says, in numbers: the same. -/
def mayE (x : Ent) : Bool :=
  let meter := decide (0 ≤ x.meter ∧ x.meter ≤ 63); let start := decide (0 ≤ x.start ∧ x.start ≤ 253402300799); let band := decide (0 ≤ x.band ∧ x.band ≤ 7); let price := decide (0 ≤ x.price ∧ x.price ≤ 1073741824); let flags := decide (0 ≤ x.flags ∧ x.flags ≤ 15)
  let bare := decide (x.hash = List.replicate 32 0) && decide (x.seq = 0)
  if x.kind = 1 then meter && start && band && price && flags && decide (0 ≤ x.energy ∧ x.energy ≤ 4611686018427387904) && decide (0 ≤ x.cost ∧ x.cost ≤ 4611686018427387904) && decide (x.count = 0) && bare
  else if x.kind = 2 then meter && start && decide (x.energy = 0) && decide (x.band = 0) && decide (x.price = 0) && decide (x.cost = 0) && decide (x.flags = 0) && bare
  else if x.kind = 3 then meter && start && decide (x.energy = 0) && decide (x.band = 0) && decide (x.price = 0) && decide (x.cost = 0) && decide (x.flags = 0)
  else if x.kind = 4 then meter && band && decide (x.start = 0) && decide (x.price = 0) && decide (x.flags = 0) && decide (x.count = 0) && decide (-4611686018427387904 ≤ x.energy ∧ x.energy ≤ 4611686018427387904) && decide (-4611686018427387904 ≤ x.cost ∧ x.cost ≤ 4611686018427387904)
  else if x.kind = 5 then decide (x.meter = 0) && decide (x.start = 0) && decide (x.energy = 0) && decide (x.band = 0) && decide (x.price = 0) && decide (x.cost = 0) && decide (x.flags = 0) && decide (x.count = 0)
  else false
theorem wrap_u32_i64 (n : Int) (h : IntKind.u32.wrap n = n) : IntKind.i64.wrap n = n := by
  simp only [IntKind.wrap_u32, IntKind.wrap_i64] at *
  omega
theorem wrap_back (n : Int) (h : IntKind.u64.wrap n = n) : IntKind.u64.wrap (IntKind.i64.wrap n) = n := by
  simp only [IntKind.wrap_u64, IntKind.wrap_i64] at *
  omega
theorem okE_may (x : Ent) (hx : x.ok) : okE x = mayE x := by
  obtain ⟨k, m, s, e, b, p, c, f, n, q, h⟩ := x
  obtain ⟨h1, h2, h3, h4, h5, h6, h7, h8, h9, h10, h11, h12⟩ := hx
  dsimp only at h1 h2 h3 h4 h5 h6 h7 h8 h9 h10 h11 h12
  have hn := wrap_u32_i64 n h9
  have hq := wrap_back q h10
  by_cases k1 : k = 1
  · subst k1
    simp [okE, mayE, foldE, fieldL, stepE, setE, getE, fitE, boundE, Ent.none]
    grind
  by_cases k2 : k = 2
  · subst k2
    simp [okE, mayE, foldE, fieldL, stepE, setE, getE, fitE, boundE, Ent.none, h9]
    grind
  by_cases k3 : k = 3
  · subst k3
    simp [okE, mayE, foldE, fieldL, stepE, setE, getE, fitE, boundE, Ent.none, h9, hq]
    grind
  by_cases k4 : k = 4
  · subst k4
    simp [okE, mayE, foldE, fieldL, stepE, setE, getE, fitE, boundE, Ent.none, hq]
    grind
  by_cases k5 : k = 5
  · subst k5
    simp [okE, mayE, foldE, fieldL, stepE, setE, getE, fitE, boundE, Ent.none, hq]
    grind
  · have : ¬ (1 ≤ k ∧ k ≤ 5) := by omega
    simp [okE, mayE, foldE, fieldL, k1, k2, k3, k4, k5, this]
end Go.Proofs.YtjcpgnachkhjaaaDoor
