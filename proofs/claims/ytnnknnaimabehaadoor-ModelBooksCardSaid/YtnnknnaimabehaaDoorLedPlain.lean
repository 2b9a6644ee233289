/- Entries: as a structure, as cells; what entry.Check computes, in plain Lean. No program in sight. -/
import Derived.Test.YtnnknnaimabehaaDoorMem
import Derived.Test.YtnnknnaimabehaaDoorMemB
import Derived.Test.YtnnknnaimabehaaDoorBoxes
import Derived.Deep.MidRow
import Derived.Below
import Derived.Test.YtnnknnaimabehaaDoorWhole
import Derived.Deep.WholeRow
import Derived.TacticsInMore
import Derived.Test.YtnnknnaimabehaaDoorRows
import Derived.Test.YtnnknnaimabehaaDoorQuiet
import Derived.Deep.QuietTactic
import Derived.BigQuiet
import Derived.Lib.Hide
import Derived.WalkKit
import Derived.WalkLawsBesides
import Derived.WalkSpells
import Derived.Test.YtnnknnaimabehaaDoorKeep
import Derived.RangeFuncNested
import Derived.RangeFuncBound
import Derived.RangeFuncCalls
import Derived.RangeFuncLeaves
import Derived.Shelf.Abstract
import Derived.Shelf.RegionOpen
import Derived.OwnWalkIn
import Derived.LoopNIn
import Derived.LoopIn
import Derived.Laws.StructEq
import Derived.ChangeKeysEq
import Derived.Test.YtnnknnaimabehaaDoorScope
namespace Go.Proofs.YtnnknnaimabehaaDoor
open Go.RowKit

structure Ent where
  kind : Int
  meter : Int
  start : Int
  energy : Int
  band : Int
  price : Int
  cost : Int
  flags : Int
  count : Int
  seq : Int
  hash : List Int
deriving DecidableEq

def Ent.none (k : Int) : Ent := ⟨k, 0, 0, 0, 0, 0, 0, 0, 0, 0, List.replicate 32 0⟩
def Ent.cells (e : Ent) : List Value :=
  .int .i64 e.kind :: .int .i64 e.meter :: .int .i64 e.start :: .int .i64 e.energy :: .int .i64 e.band :: .int .i64 e.price :: .int .i64 e.cost :: .int .i64 e.flags :: .int .u32 e.count :: .int .u64 e.seq :: e.hash.map (Value.int .u8)
def Ent.arr (e : Ent) : Array Value := e.cells.toArray
/-- An entry as a variable can hold it. -/
def Ent.ok (e : Ent) : Prop :=
  IntKind.i64.wrap e.kind = e.kind ∧ IntKind.i64.wrap e.meter = e.meter ∧ IntKind.i64.wrap e.start = e.start ∧ IntKind.i64.wrap e.energy = e.energy ∧ IntKind.i64.wrap e.band = e.band ∧ IntKind.i64.wrap e.price = e.price ∧
  IntKind.i64.wrap e.cost = e.cost ∧ IntKind.i64.wrap e.flags = e.flags ∧ IntKind.u32.wrap e.count = e.count ∧ IntKind.u64.wrap e.seq = e.seq ∧ e.hash.length = 32 ∧ ∀ x ∈ e.hash, 0 ≤ x ∧ x < 256
theorem Ent.cells_len (e : Ent) (h : e.hash.length = 32) : e.cells.length = 42 := by simp [Ent.cells, h]
theorem Ent.arr_size (e : Ent) (h : e.hash.length = 32) : e.arr.size = 42 := by simp [Ent.arr, Ent.cells, h]

/-- A field's letter: m Meter 109, t Start 116, e Energy 101, b Band 98, p Price 112, c Cost 99, f Flags 102, n Count 110, s Seq 115, h Hash 104. -/
def fieldL (k : Int) : List Int :=
  if k = 1 then [109, 116, 101, 98, 112, 99, 102] else if k = 2 then [109, 116, 110] else if k = 3 then [109, 116, 110, 115, 104] else if k = 4 then [109, 98, 101, 99, 115, 104] else if k = 5 then [115, 104] else []
/-- A field's number, as get has it. -/
def getE (e : Ent) (f : Int) : Int :=
  if f = 109 then e.meter else if f = 116 then e.start else if f = 101 then e.energy else if f = 98 then e.band else if f = 112 then e.price else if f = 99 then e.cost else if f = 102 then e.flags else if f = 110 then e.count else IntKind.i64.wrap e.seq
/-- What set makes. -/
def setE (e : Ent) (f n : Int) : Ent :=
  if f = 109 then { e with meter := n } else if f = 116 then { e with start := n } else if f = 101 then { e with energy := n } else if f = 98 then { e with band := n } else if f = 112 then { e with price := n } else if f = 99 then { e with cost := n } else if f = 102 then { e with flags := n } else if f = 110 then { e with count := IntKind.u32.wrap n } else { e with seq := IntKind.u64.wrap n }
/-- A field's bounds. -/
def boundE (k f : Int) : Int × Int × Bool :=
  if f = 109 then (0, 63, true) else if f = 116 then (0, 253402300799, true) else if f = 101 ∨ f = 99 then ((if k = 4 then -4611686018427387904 else 0), 4611686018427387904, true) else if f = 98 then (0, 7, true) else if f = 112 then (0, 1073741824, true) else if f = 102 then (0, 15, true) else (0, 0, false)
def fitE (x : Ent) (f : Int) : Bool := !((boundE x.kind f).2.2) || (decide ((boundE x.kind f).1 ≤ getE x f) && decide (getE x f ≤ (boundE x.kind f).2.1))
/-- One round of Check: the copy, and whether it is fine. -/
def stepE (x : Ent) (s : Ent × Bool) (f : Int) : Ent × Bool :=
  if f = 104 then ({ s.1 with hash := x.hash }, s.2) else (setE s.1 f (getE x f), s.2 && fitE x f)
def foldE (x : Ent) (l : List Int) : Ent × Bool := l.foldl (stepE x) (Ent.none x.kind, decide (1 ≤ x.kind ∧ x.kind ≤ 5))
/-- Check's answer. -/
def okE (x : Ent) : Bool := (foldE x (fieldL x.kind)).2 && decide (x = (foldE x (fieldL x.kind)).1)

theorem ent_cells {W : World} {B : Nat} {t : TypeId} {e : Ent} (h : Held W B t e.arr) :
    W.cell? ⟨B, 0, none⟩ = some (.int .i64 e.kind) ∧ W.cell? ⟨B, 1, none⟩ = some (.int .i64 e.meter) ∧ W.cell? ⟨B, 2, none⟩ = some (.int .i64 e.start) ∧ W.cell? ⟨B, 3, none⟩ = some (.int .i64 e.energy) ∧ W.cell? ⟨B, 4, none⟩ = some (.int .i64 e.band) ∧
    W.cell? ⟨B, 5, none⟩ = some (.int .i64 e.price) ∧ W.cell? ⟨B, 6, none⟩ = some (.int .i64 e.cost) ∧ W.cell? ⟨B, 7, none⟩ = some (.int .i64 e.flags) ∧ W.cell? ⟨B, 8, none⟩ = some (.int .u32 e.count) ∧ W.cell? ⟨B, 9, none⟩ = some (.int .u64 e.seq) := by
  refine ⟨(h.cell 0).trans ?_, (h.cell 1).trans ?_, (h.cell 2).trans ?_, (h.cell 3).trans ?_, (h.cell 4).trans ?_, (h.cell 5).trans ?_, (h.cell 6).trans ?_, (h.cell 7).trans ?_, (h.cell 8).trans ?_, (h.cell 9).trans ?_⟩ <;> simp [Ent.arr, Ent.cells]
theorem ent_range {W : World} {B : Nat} {t : TypeId} {e : Ent} (h : Held W B t e.arr) : W.rangeAt B 0 e.cells := fun j v hv => by
  rw [Nat.zero_add, h.cell j]
  simpa [Ent.arr] using hv
theorem ent_hash {W : World} {B : Nat} {t : TypeId} {e : Ent} (h : Held W B t e.arr) : W.rangeAt B 10 (e.hash.map (Value.int .u8)) := fun j v hv => by
  rw [h.cell (10 + j)]
  have : e.cells[10 + j]? = (e.hash.map (Value.int .u8))[j]? := by
    rw [show 10 + j = j + 10 by omega]; rfl
  simp only [Ent.arr, List.getElem?_toArray, this, hv]

/-- What entry.May of the document says, in numbers: the same. -/
def mayE (x : Ent) : Bool :=
  let meter := decide (0 ≤ x.meter ∧ x.meter ≤ 63); let start := decide (0 ≤ x.start ∧ x.start ≤ 253402300799); let band := decide (0 ≤ x.band ∧ x.band ≤ 7); let price := decide (0 ≤ x.price ∧ x.price ≤ 1073741824); let flags := decide (0 ≤ x.flags ∧ x.flags ≤ 15)
  let bare := decide (x.hash = List.replicate 32 0) && decide (x.seq = 0)
  if x.kind = 1 then meter && start && band && price && flags && decide (0 ≤ x.energy ∧ x.energy ≤ 4611686018427387904) && decide (0 ≤ x.cost ∧ x.cost ≤ 4611686018427387904) && decide (x.count = 0) && bare
  else if x.kind = 2 then meter && start && decide (x.energy = 0) && decide (x.band = 0) && decide (x.price = 0) && decide (x.cost = 0) && decide (x.flags = 0) && bare
  else if x.kind = 3 then meter && start && decide (x.energy = 0) && decide (x.band = 0) && decide (x.price = 0) && decide (x.cost = 0) && decide (x.flags = 0)
  else if x.kind = 4 then meter && band && decide (x.start = 0) && decide (x.price = 0) && decide (x.flags = 0) && decide (x.count = 0) && decide (-4611686018427387904 ≤ x.energy ∧ x.energy ≤ 4611686018427387904) && decide (-4611686018427387904 ≤ x.cost ∧ x.cost ≤ 4611686018427387904)
  else if x.kind = 5 then decide (x.meter = 0) && decide (x.start = 0) && decide (x.energy = 0) && decide (x.band = 0) && decide (x.price = 0) && decide (x.cost = 0) && decide (x.flags = 0) && decide (x.count = 0)
  else false
theorem wrap_u32_i64 (n : Int) (h : IntKind.u32.wrap n = n) : IntKind.i64.wrap n = n := by
  simp only [IntKind.wrap_u32, IntKind.wrap_i64] at *
  omega
theorem wrap_back (n : Int) (h : IntKind.u64.wrap n = n) : IntKind.u64.wrap (IntKind.i64.wrap n) = n := by
  simp only [IntKind.wrap_u64, IntKind.wrap_i64] at *
  omega
theorem okE_may (x : Ent) (hx : x.ok) : okE x = mayE x := by
  obtain ⟨k, m, s, e, b, p, c, f, n, q, h⟩ := x
  obtain ⟨h1, h2, h3, h4, h5, h6, h7, h8, h9, h10, h11, h12⟩ := hx
  dsimp only at h1 h2 h3 h4 h5 h6 h7 h8 h9 h10 h11 h12
  have hn := wrap_u32_i64 n h9
  have hq := wrap_back q h10
  by_cases k1 : k = 1
  · subst k1
    simp [okE, mayE, foldE, fieldL, stepE, setE, getE, fitE, boundE, Ent.none]
    grind
  by_cases k2 : k = 2
  · subst k2
    simp [okE, mayE, foldE, fieldL, stepE, setE, getE, fitE, boundE, Ent.none, h9]
    grind
  by_cases k3 : k = 3
  · subst k3
    simp [okE, mayE, foldE, fieldL, stepE, setE, getE, fitE, boundE, Ent.none, h9, hq]
    grind
  by_cases k4 : k = 4
  · subst k4
    simp [okE, mayE, foldE, fieldL, stepE, setE, getE, fitE, boundE, Ent.none, hq]
    grind
  by_cases k5 : k = 5
  · subst k5
    simp [okE, mayE, foldE, fieldL, stepE, setE, getE, fitE, boundE, Ent.none, hq]
    grind
  · have : ¬ (1 ≤ k ∧ k ≤ 5) := by omega
    simp [okE, mayE, foldE, fieldL, k1, k2, k3, k4, k5, this]
end Go.Proofs.YtnnknnaimabehaaDoor
namespace Go.Proofs.YtnnknnaimabehaaDoor
open Go.RowKit

structure Tot where
  energy : Int
  cost : Int
  many : Int
deriving DecidableEq
structure SumS where
  energy : Int
  cost : Int
  intervals : Int
  flagged : Int
  suspects : Int
  replaced : Int
  corrected : Int
  last : Ent
deriving DecidableEq
def Tot.zero : Tot := ⟨0, 0, 0⟩
def SumS.zero : SumS := ⟨0, 0, 0, 0, 0, 0, 0, Ent.none 0⟩
def Tot.cells (t : Tot) : List Value := [.int .i64 t.energy, .int .i64 t.cost, .int .i64 t.many]
def Tot.arr (t : Tot) : Array Value := t.cells.toArray
def SumS.cells (s : SumS) : List Value :=
  .int .i64 s.energy :: .int .i64 s.cost :: .int .i64 s.intervals :: .int .i64 s.flagged :: .int .i64 s.suspects :: .int .i64 s.replaced :: .int .i64 s.corrected :: s.last.cells
def SumS.arr (s : SumS) : Array Value := s.cells.toArray
structure Bk where
  tot : List Tot
  sums : List SumS
  ofm : List Int
  many : Int
  seals : Int
def Bk.cells (b : Bk) : List Value := b.tot.flatMap Tot.cells ++ (b.sums.flatMap SumS.cells ++ (b.ofm.map (Value.int .i64) ++ [.int .i64 b.many, .int .i64 b.seals]))
def Bk.arr (b : Bk) : Array Value := b.cells.toArray
def Bk.zero : Bk := ⟨List.replicate 512 Tot.zero, List.replicate 64 SumS.zero, List.replicate 64 0, 0, 0⟩
theorem Tot.cells_len (t : Tot) : t.cells.length = 3 := rfl
theorem SumS.cells_len (s : SumS) (h : s.last.hash.length = 32) : s.cells.length = 49 := by simp [SumS.cells, Ent.cells_len _ h]
theorem SumS.arr_size (s : SumS) (h : s.last.hash.length = 32) : s.arr.size = 49 := by simp [SumS.arr, SumS.cells_len s h]

/-- An amount that a total or a sum may have. -/
def amt (n : Int) : Prop := -4611686018427387904 ≤ n ∧ n ≤ 4611686018427387904
def Tot.ok (K : Int) (t : Tot) : Prop := amt t.energy ∧ amt t.cost ∧ 0 ≤ t.many ∧ t.many ≤ K
def SumS.ok (K : Int) (s : SumS) : Prop :=
  amt s.energy ∧ amt s.cost ∧ (0 ≤ s.intervals ∧ s.intervals ≤ K) ∧ (0 ≤ s.flagged ∧ s.flagged ≤ K) ∧ (0 ≤ s.suspects ∧ s.suspects ≤ K) ∧ (0 ≤ s.replaced ∧ s.replaced ≤ K) ∧ (0 ≤ s.corrected ∧ s.corrected ≤ K) ∧ s.last.ok
/-- A book behind at most K entries. -/
structure Bk.ok (K : Int) (b : Bk) : Prop where
  tl : b.tot.length = 512
  sl : b.sums.length = 64
  ol : b.ofm.length = 64
  t : ∀ t ∈ b.tot, t.ok K
  s : ∀ s ∈ b.sums, s.ok K
  o : ∀ n ∈ b.ofm, 0 ≤ n ∧ n ≤ K
  m : 0 ≤ b.many ∧ b.many ≤ K
  e : 0 ≤ b.seals ∧ b.seals ≤ K
theorem Ent.none_ok : (Ent.none 0).ok := by
  refine ⟨rfl, rfl, rfl, rfl, rfl, rfl, rfl, rfl, rfl, rfl, rfl, ?_⟩
  intro x hx
  have := List.eq_of_mem_replicate hx
  omega
theorem amt0 : amt 0 := by unfold amt; omega
theorem SumS.zero_ok (K : Int) (h : 0 ≤ K) : SumS.zero.ok K :=
  ⟨amt0, amt0, ⟨by decide, h⟩, ⟨by decide, h⟩, ⟨by decide, h⟩, ⟨by decide, h⟩, ⟨by decide, h⟩, Ent.none_ok⟩
theorem Tot.zero_ok (K : Int) (h : 0 ≤ K) : Tot.zero.ok K := ⟨amt0, amt0, by decide, h⟩
theorem Bk.zero_ok : Bk.zero.ok 0 where
  tl := List.length_replicate
  sl := List.length_replicate
  ol := List.length_replicate
  t := fun t h => by rw [List.eq_of_mem_replicate h]; exact Tot.zero_ok 0 (by decide)
  s := fun t h => by rw [List.eq_of_mem_replicate h]; exact SumS.zero_ok 0 (by decide)
  o := fun t h => by rw [List.eq_of_mem_replicate h]; decide
  m := by decide
  e := by decide
theorem Tot.ok.mono {K L : Int} {t : Tot} (h : t.ok K) (hl : K ≤ L) : t.ok L := by
  obtain ⟨a, b, c, d⟩ := h
  exact ⟨a, b, c, by omega⟩
theorem SumS.ok.mono {K L : Int} {s : SumS} (h : s.ok K) (hl : K ≤ L) : s.ok L := by
  obtain ⟨a, b, ⟨c, c'⟩, ⟨d, d'⟩, ⟨e, e'⟩, ⟨f, f'⟩, ⟨g, g'⟩, i⟩ := h
  exact ⟨a, b, ⟨c, by omega⟩, ⟨d, by omega⟩, ⟨e, by omega⟩, ⟨f, by omega⟩, ⟨g, by omega⟩, i⟩
theorem Bk.ok.mono {K L : Int} {b : Bk} (h : b.ok K) (hl : K ≤ L) : b.ok L where
  tl := h.tl
  sl := h.sl
  ol := h.ol
  t := fun t ht => (h.t t ht).mono hl
  s := fun t ht => (h.s t ht).mono hl
  o := fun n hn => ⟨(h.o n hn).1, by have := (h.o n hn).2; omega⟩
  m := ⟨h.m.1, by have := h.m.2; omega⟩
  e := ⟨h.e.1, by have := h.e.2; omega⟩
theorem SumS.ok.hash {K : Int} {s : SumS} (h : s.ok K) : s.last.hash.length = 32 := h.2.2.2.2.2.2.2.2.2.2.2.2.2.2.2.2.2.1

/-- The total of a meter and a band; a meter's sum; how many of it. -/
def Bk.totAt (b : Bk) (m k : Nat) : Tot := b.tot.getD (m * 8 + k) Tot.zero
def Bk.sumAt (b : Bk) (m : Nat) : SumS := b.sums.getD m SumS.zero
def Bk.ofAt (b : Bk) (m : Nat) : Int := b.ofm.getD m 0
theorem getD_mem {α : Type} (l : List α) (i : Nat) (d : α) (h : i < l.length) : l.getD i d ∈ l := by
  rw [List.getD_eq_getElem?_getD, List.getElem?_eq_getElem h]
  exact List.getElem_mem h
theorem Bk.ok.totAt {K : Int} {b : Bk} (h : b.ok K) (m k : Nat) (hm : m < 64) (hk : k < 8) : (b.totAt m k).ok K := h.t _ (getD_mem _ _ _ (by rw [h.tl]; omega))
theorem Bk.ok.sumAt {K : Int} {b : Bk} (h : b.ok K) (m : Nat) (hm : m < 64) : (b.sumAt m).ok K := h.s _ (getD_mem _ _ _ (by rw [h.sl]; omega))
theorem Bk.ok.ofAt {K : Int} {b : Bk} (h : b.ok K) (m : Nat) (hm : m < 64) : 0 ≤ b.ofAt m ∧ b.ofAt m ≤ K := h.o _ (getD_mem _ _ _ (by rw [h.ol]; omega))

/-- A sum that is not beyond. -/
def lsumP (a b : Int) : Int × Int := if -4611686018427387904 ≤ a + b ∧ a + b ≤ 4611686018427387904 then (a + b, 0) else (0, 10)
def max4 (a b c d : Int) : Int := max (max (max a b) c) d
def amountsP (t : Tot) (s : SumS) (x : Ent) : Tot × SumS × Int :=
  (⟨(lsumP t.energy x.energy).1, (lsumP t.cost x.cost).1, t.many + 1⟩, { s with energy := (lsumP s.energy x.energy).1, cost := (lsumP s.cost x.cost).1 },
    max4 (lsumP t.energy x.energy).2 (lsumP t.cost x.cost).2 (lsumP s.energy x.energy).2 (lsumP s.cost x.cost).2)
def nextP (b : Bk) (x : Ent) : Tot × SumS × Int :=
  if okE x = false then (Tot.zero, SumS.zero, 150)
  else if x.kind = 2 then (b.totAt x.meter.toNat x.band.toNat, { b.sumAt x.meter.toNat with suspects := (b.sumAt x.meter.toNat).suspects + 1 }, 0)
  else if x.kind = 3 then (b.totAt x.meter.toNat x.band.toNat, { b.sumAt x.meter.toNat with replaced := (b.sumAt x.meter.toNat).replaced + 1 }, 0)
  else if x.kind = 1 then amountsP (b.totAt x.meter.toNat x.band.toNat) { b.sumAt x.meter.toNat with last := x, intervals := (b.sumAt x.meter.toNat).intervals + 1, flagged := (b.sumAt x.meter.toNat).flagged + min x.flags 1 } x
  else if x.kind = 4 then amountsP (b.totAt x.meter.toNat x.band.toNat) { b.sumAt x.meter.toNat with corrected := (b.sumAt x.meter.toNat).corrected + 1 } x
  else (b.totAt x.meter.toNat x.band.toNat, b.sumAt x.meter.toNat, 0)
def addP (b : Bk) (x : Ent) : Bk × Int :=
  if (nextP b x).2.2 ≠ 0 then (b, (nextP b x).2.2)
  else if x.kind = 5 then ({ b with many := b.many + 1, seals := b.seals + 1 }, 0)
  else ({ b with tot := b.tot.set (x.meter.toNat * 8 + x.band.toNat) (nextP b x).1, sums := b.sums.set x.meter.toNat (nextP b x).2.1, ofm := b.ofm.set x.meter.toNat (b.ofAt x.meter.toNat + 1), many := b.many + 1 }, 0)

/-- What an entry that may be has within bounds. -/
theorem okE_in (x : Ent) (hx : x.ok) (h : okE x = true) : (1 ≤ x.kind ∧ x.kind ≤ 5) ∧ (0 ≤ x.meter ∧ x.meter ≤ 63) ∧ (0 ≤ x.band ∧ x.band ≤ 7) ∧ amt x.energy ∧ amt x.cost ∧ (0 ≤ x.flags ∧ x.flags ≤ 15) := by
  rw [okE_may x hx] at h
  unfold mayE at h
  unfold amt
  by_cases k1 : x.kind = 1
  · simp [k1] at h; omega
  by_cases k2 : x.kind = 2
  · simp [k2] at h; omega
  by_cases k3 : x.kind = 3
  · simp [k3] at h; omega
  by_cases k4 : x.kind = 4
  · simp [k4] at h; omega
  by_cases k5 : x.kind = 5
  · simp [k5] at h; omega
  · simp [k1, k2, k3, k4, k5] at h

/- The cells, parted. -/
theorem flat_part {α : Type} (c : α → List Value) (n : Nat) (l : List α) (i : Nat) (hi : i < l.length) (hc : ∀ x ∈ l, (c x).length = n) :
    ∃ A C, A.length = i * n ∧ ∀ x, (l.set i x).flatMap c = A ++ (c x ++ C) := by
  refine ⟨(l.take i).flatMap c, (l.drop (i + 1)).flatMap c, ?_, fun x => ?_⟩
  · have : ∀ k : List α, (∀ x ∈ k, (c x).length = n) → (k.flatMap c).length = k.length * n := by
      intro k
      induction k with
      | nil => simp
      | cons a k ih =>
        intro h
        rw [List.flatMap_cons, List.length_append, h a (by simp), ih (fun x hx => h x (by simp [hx])), List.length_cons, Nat.succ_mul, Nat.add_comm]
    rw [this _ (fun x hx => hc x (List.mem_of_mem_take hx)), List.length_take, Nat.min_eq_left (Nat.le_of_lt hi)]
  · rw [List.set_eq_take_append_cons_drop, if_pos hi, List.flatMap_append, List.flatMap_cons]
theorem flat_len {α : Type} (c : α → List Value) (n : Nat) (l : List α) (hc : ∀ x ∈ l, (c x).length = n) : (l.flatMap c).length = l.length * n := by
  induction l with
  | nil => simp
  | cons a k ih => rw [List.flatMap_cons, List.length_append, hc a (by simp), ih (fun x hx => hc x (by simp [hx])), List.length_cons, Nat.succ_mul, Nat.add_comm]
theorem set_getD {α : Type} (l : List α) (i : Nat) (d : α) (h : i < l.length) : l.set i (l.getD i d) = l := by
  rw [List.getD_eq_getElem?_getD, List.getElem?_eq_getElem h]
  simp
theorem Bk.part_tot {K : Int} (b : Bk) (h : b.ok K) (i : Nat) (hi : i < 512) : ∃ A C, A.length = i * 3 ∧ ∀ t, ({ b with tot := b.tot.set i t } : Bk).cells = A ++ (t.cells ++ C) := by
  obtain ⟨A, C, ha, hac⟩ := flat_part Tot.cells 3 b.tot i (by rw [h.tl]; exact hi) (fun x _ => rfl)
  refine ⟨A, C ++ (b.sums.flatMap SumS.cells ++ (b.ofm.map (Value.int .i64) ++ [.int .i64 b.many, .int .i64 b.seals])), ha, fun t => ?_⟩
  unfold Bk.cells
  simp only
  rw [hac t]
  simp only [List.append_assoc]
theorem Bk.part_sum {K : Int} (b : Bk) (h : b.ok K) (i : Nat) (hi : i < 64) : ∃ A C, A.length = 1536 + i * 49 ∧ ∀ s, ({ b with sums := b.sums.set i s } : Bk).cells = A ++ (s.cells ++ C) := by
  obtain ⟨A, C, ha, hac⟩ := flat_part SumS.cells 49 b.sums i (by rw [h.sl]; exact hi) (fun x hx => SumS.cells_len x (h.s x hx).hash)
  refine ⟨b.tot.flatMap Tot.cells ++ A, C ++ (b.ofm.map (Value.int .i64) ++ [.int .i64 b.many, .int .i64 b.seals]), ?_, fun t => ?_⟩
  rotate_left
  · unfold Bk.cells
    simp only
    rw [hac t]
    simp only [List.append_assoc]
  rw [List.length_append, flat_len Tot.cells 3 _ (fun _ _ => rfl), h.tl, ha]
theorem Bk.head_len {K : Int} (b : Bk) (h : b.ok K) : (b.tot.flatMap Tot.cells ++ b.sums.flatMap SumS.cells).length = 4672 := by
  rw [List.length_append, flat_len Tot.cells 3 _ (fun _ _ => rfl), h.tl, flat_len SumS.cells 49 _ (fun x hx => SumS.cells_len x (h.s x hx).hash), h.sl]
theorem Bk.cells_len {K : Int} (b : Bk) (h : b.ok K) : b.cells.length = 4738 := by
  have := Bk.head_len b h
  unfold Bk.cells
  simp only [List.length_append, List.length_map, h.ol, List.length_cons, List.length_nil] at this ⊢
  omega
theorem Bk.arr_size {K : Int} (b : Bk) (h : b.ok K) : b.arr.size = 4738 := by simp [Bk.arr, Bk.cells_len b h]
theorem Bk.of_cell {K : Int} (b : Bk) (h : b.ok K) (i : Nat) (hi : i < 64) : b.arr[4672 + i]? = some (.int .i64 (b.ofAt i)) := by
  have hl := Bk.head_len b h
  simp only [Bk.arr, List.getElem?_toArray]
  unfold Bk.cells
  rw [← List.append_assoc, List.getElem?_append_right (by omega), hl, List.getElem?_append_left (by simp [h.ol]; omega)]
  rw [Nat.add_sub_cancel_left, List.getElem?_map, List.getElem?_eq_getElem (by rw [h.ol]; exact hi)]
  unfold Bk.ofAt
  rw [List.getD_eq_getElem?_getD, List.getElem?_eq_getElem (by rw [h.ol]; exact hi)]
  rfl
theorem Bk.many_cell {K : Int} (b : Bk) (h : b.ok K) : b.arr[4736]? = some (.int .i64 b.many) := by
  have hl := Bk.head_len b h
  simp only [Bk.arr, List.getElem?_toArray]
  unfold Bk.cells
  rw [← List.append_assoc, List.getElem?_append_right (by omega), hl, List.getElem?_append_right (by simp [h.ol])]
  simp [h.ol]
theorem Bk.seals_cell {K : Int} (b : Bk) (h : b.ok K) : b.arr[4737]? = some (.int .i64 b.seals) := by
  have hl := Bk.head_len b h
  simp only [Bk.arr, List.getElem?_toArray]
  unfold Bk.cells
  rw [← List.append_assoc, List.getElem?_append_right (by omega), hl, List.getElem?_append_right (by simp [h.ol])]
  simp [h.ol]
theorem Bk.of_set {K : Int} (b : Bk) (h : b.ok K) (i : Nat) (n : Int) (hi : i < 64) : b.arr.setIfInBounds (4672 + i) (.int .i64 n) = ({ b with ofm := b.ofm.set i n } : Bk).arr := by
  have hl := Bk.head_len b h
  simp only [Bk.arr, List.setIfInBounds_toArray]
  congr 1
  unfold Bk.cells
  simp only
  rw [← List.append_assoc, List.set_append_right _ _ (by omega), hl, List.set_append_left _ _ (by simp [h.ol]; omega), Nat.add_sub_cancel_left, List.map_set, List.append_assoc]
theorem Bk.many_set {K : Int} (b : Bk) (h : b.ok K) (n : Int) : b.arr.setIfInBounds 4736 (.int .i64 n) = ({ b with many := n } : Bk).arr := by
  have hl := Bk.head_len b h
  simp only [Bk.arr, List.setIfInBounds_toArray]
  congr 1
  unfold Bk.cells
  simp only
  rw [← List.append_assoc, List.set_append_right _ _ (by omega), hl, List.set_append_right _ _ (by simp [h.ol]), List.append_assoc]
  simp [h.ol]
theorem Bk.seals_set {K : Int} (b : Bk) (h : b.ok K) (n : Int) : b.arr.setIfInBounds 4737 (.int .i64 n) = ({ b with seals := n } : Bk).arr := by
  have hl := Bk.head_len b h
  simp only [Bk.arr, List.setIfInBounds_toArray]
  congr 1
  unfold Bk.cells
  simp only
  rw [← List.append_assoc, List.set_append_right _ _ (by omega), hl, List.set_append_right _ _ (by simp [h.ol]), List.append_assoc]
  simp [h.ol]

/- Ranges of a block that is held. -/
theorem held_range {W : World} {B : Nat} {t : TypeId} {A vs C : List Value} (h : Held W B t (A ++ (vs ++ C)).toArray) : W.rangeAt B A.length vs := fun j v hv => by
  rw [h.cell, List.getElem?_toArray, List.getElem?_append_right (by omega), Nat.add_sub_cancel_left, List.getElem?_append_left (by have := (List.getElem?_eq_some_iff.1 hv).1; omega), hv]
theorem held_there {W : World} {B o n : Nat} {t : TypeId} {cs : Array Value} (h : Held W B t cs) (hn : o + n ≤ cs.size) : W.there B o n := fun j hj => by
  refine ⟨?_, h.frozen _⟩
  rw [h.cell, Array.getElem?_eq_getElem (by omega)]; rfl
theorem held_setCells {B : Nat} {t : TypeId} (vs old : List Value) {W : World} (A C : List Value) (hl : vs.length = old.length) (h : Held W B t (A ++ (old ++ C)).toArray) : Held (W.setCells B A.length vs) B t (A ++ (vs ++ C)).toArray := held_splice vs old A C hl h
theorem below_setCells {N B : Nat} : ∀ (vs : List Value) (o : Nat) {W W' : World}, Below N W W' → N ≤ B → Below N W (W'.setCells B o vs)
  | [], _, _, _, h, _ => h
  | v :: vs, o, _, _, h, hB => by
    rw [World.setCells]
    exact below_setCells vs (o + 1) (h.setCell (p := ⟨B, o, none⟩) hB v) hB
/- What a book's block holds, where. -/
theorem Bk.self_tot {K : Int} (b : Bk) (h : b.ok K) (i : Nat) (hi : i < 512) : ({ b with tot := b.tot.set i (b.tot.getD i Tot.zero) } : Bk) = b := by rw [set_getD _ _ _ (by rw [h.tl]; exact hi)]
theorem Bk.self_sum {K : Int} (b : Bk) (h : b.ok K) (i : Nat) (hi : i < 64) : ({ b with sums := b.sums.set i (b.sums.getD i SumS.zero) } : Bk) = b := by rw [set_getD _ _ _ (by rw [h.sl]; exact hi)]
theorem Bk.tot_range {K : Int} (b : Bk) (h : b.ok K) (m k : Nat) (hm : m < 64) (hk : k < 8) {W : World} {g : Nat} {t : TypeId} (hB : Held W g t b.arr) : W.rangeAt g (m * 24 + k * 3) (b.totAt m k).cells := by
  obtain ⟨A, C, ha, hac⟩ := b.part_tot h (m * 8 + k) (by omega)
  have e := hac (b.tot.getD (m * 8 + k) Tot.zero)
  rw [b.self_tot h _ (by omega)] at e
  unfold Bk.arr at hB
  rw [e] at hB
  have := held_range hB
  rwa [ha, show (m * 8 + k) * 3 = m * 24 + k * 3 by omega] at this
theorem Bk.sum_range {K : Int} (b : Bk) (h : b.ok K) (m : Nat) (hm : m < 64) {W : World} {g : Nat} {t : TypeId} (hB : Held W g t b.arr) : W.rangeAt g (1536 + m * 49) (b.sumAt m).cells := by
  obtain ⟨A, C, ha, hac⟩ := b.part_sum h m hm
  have e := hac (b.sums.getD m SumS.zero)
  rw [b.self_sum h _ hm] at e
  unfold Bk.arr at hB
  rw [e] at hB
  have := held_range hB
  rwa [ha] at this
theorem Bk.tot_store {K : Int} (b : Bk) (h : b.ok K) (m k : Nat) (hm : m < 64) (hk : k < 8) (x : Tot) {W : World} {g : Nat} {t : TypeId} (hB : Held W g t b.arr) : Held (W.setCells g (m * 24 + k * 3) x.cells) g t ({ b with tot := b.tot.set (m * 8 + k) x } : Bk).arr := by
  obtain ⟨A, C, ha, hac⟩ := b.part_tot h (m * 8 + k) (by omega)
  have e := hac (b.tot.getD (m * 8 + k) Tot.zero)
  rw [b.self_tot h _ (by omega)] at e
  unfold Bk.arr at hB ⊢
  rw [e] at hB
  rw [hac x]
  have := held_splice x.cells _ A C (by rfl) hB
  rwa [ha, show (m * 8 + k) * 3 = m * 24 + k * 3 by omega] at this
theorem Bk.sum_store {K : Int} (b : Bk) (h : b.ok K) (m : Nat) (hm : m < 64) (x : SumS) (hx : x.last.hash.length = 32) {W : World} {g : Nat} {t : TypeId} (hB : Held W g t b.arr) : Held (W.setCells g (1536 + m * 49) x.cells) g t ({ b with sums := b.sums.set m x } : Bk).arr := by
  obtain ⟨A, C, ha, hac⟩ := b.part_sum h m hm
  have e := hac (b.sums.getD m SumS.zero)
  rw [b.self_sum h _ hm] at e
  unfold Bk.arr at hB ⊢
  rw [e] at hB
  rw [hac x]
  have := held_splice x.cells _ A C (by exact (SumS.cells_len _ hx).trans (SumS.cells_len _ (h.sumAt m hm).hash).symm) hB
  rwa [ha] at this
end Go.Proofs.YtnnknnaimabehaaDoor
namespace Go.Proofs.YtnnknnaimabehaaDoor
open Go.RowKit

theorem sumP_amt (a b : Int) : amt (lsumP a b).1 := by
  unfold lsumP amt
  split <;> simp <;> omega
theorem amountsP_ok {K : Int} {t : Tot} {s : SumS} (x : Ent) (ht : t.ok K) (hs : s.ok K) : (amountsP t s x).1.ok (K + 1) ∧ (amountsP t s x).2.1.ok K := by
  obtain ⟨t1, t2, t3, t4⟩ := ht
  obtain ⟨s1, s2, s3⟩ := hs
  exact ⟨⟨sumP_amt _ _, sumP_amt _ _, by show 0 ≤ t.many + 1; omega, by show t.many + 1 ≤ K + 1; omega⟩, sumP_amt _ _, sumP_amt _ _, s3⟩
theorem nextP_ok {K : Int} (hK : 0 ≤ K) {b : Bk} (hb : b.ok K) (x : Ent) (hx : x.ok) : (nextP b x).1.ok (K + 1) ∧ (nextP b x).2.1.ok (K + 1) := by
  unfold nextP
  split
  · exact ⟨Tot.zero_ok _ (by omega), SumS.zero_ok _ (by omega)⟩
  · rename_i h
    have h : okE x = true := by simpa using h
    obtain ⟨h1, h2, h3, h4, h5, h6⟩ := okE_in x hx h
    have ht : (b.totAt x.meter.toNat x.band.toNat).ok K := hb.totAt _ _ (by omega) (by omega)
    have hs : (b.sumAt x.meter.toNat).ok K := hb.sumAt _ (by omega)
    have ht1 := ht.mono (show K ≤ K + 1 by omega)
    generalize b.totAt x.meter.toNat x.band.toNat = t at ht ht1 ⊢
    generalize b.sumAt x.meter.toNat = s at hs ⊢
    have hs0 := hs
    obtain ⟨s1, s2, ⟨s3, s3'⟩, ⟨s4, s4'⟩, ⟨s5, s5'⟩, ⟨s6, s6'⟩, ⟨s7, s7'⟩, s8⟩ := hs
    split
    · refine ⟨ht1, s1, s2, ⟨?_, ?_⟩, ⟨?_, ?_⟩, ⟨?_, ?_⟩, ⟨?_, ?_⟩, ⟨?_, ?_⟩, s8⟩ <;> dsimp only <;> omega
    split
    · refine ⟨ht1, s1, s2, ⟨?_, ?_⟩, ⟨?_, ?_⟩, ⟨?_, ?_⟩, ⟨?_, ?_⟩, ⟨?_, ?_⟩, s8⟩ <;> dsimp only <;> omega
    split
    · have := amountsP_ok (K := K + 1) (s := { s with last := x, intervals := s.intervals + 1, flagged := s.flagged + min x.flags 1 }) x ht1
        (by refine ⟨s1, s2, ⟨?_, ?_⟩, ⟨?_, ?_⟩, ⟨?_, ?_⟩, ⟨?_, ?_⟩, ⟨?_, ?_⟩, hx⟩ <;> dsimp only <;> omega)
      exact ⟨(amountsP_ok x ht hs0).1, this.2⟩
    split
    · have := amountsP_ok (K := K + 1) (s := { s with corrected := s.corrected + 1 }) x ht1
        (by refine ⟨s1, s2, ⟨?_, ?_⟩, ⟨?_, ?_⟩, ⟨?_, ?_⟩, ⟨?_, ?_⟩, ⟨?_, ?_⟩, s8⟩ <;> dsimp only <;> omega)
      exact ⟨(amountsP_ok x ht hs0).1, this.2⟩
    · exact ⟨ht1, hs0.mono (by omega)⟩
theorem nextP_e (b : Bk) (x : Ent) (h : (nextP b x).2.2 = 0) : okE x = true := by
  cases hk : okE x with
  | true => rfl
  | false =>
    unfold nextP at h
    rw [if_pos hk] at h
    simp at h
theorem addP_ok {K : Int} (hK : 0 ≤ K) {b : Bk} (hb : b.ok K) (x : Ent) (hx : x.ok) : (addP b x).1.ok (K + 1) := by
  have hn := nextP_ok hK hb x hx
  have hb1 := hb.mono (show K ≤ K + 1 by omega)
  unfold addP
  split
  · exact hb1
  · rename_i he
    have hk := nextP_e b x (by simpa using he)
    obtain ⟨h1, h2, h3, _⟩ := okE_in x hx hk
    have hm := hb.m
    have hs := hb.e
    split
    · exact { hb1 with m := ⟨by show 0 ≤ _ + 1; omega, by show _ + 1 ≤ _ + 1; omega⟩, e := ⟨by show 0 ≤ _ + 1; omega, by show _ + 1 ≤ _ + 1; omega⟩ }
    · refine { tl := by show (List.set _ _ _).length = _; rw [List.length_set]; exact hb.tl, sl := by show (List.set _ _ _).length = _; rw [List.length_set]; exact hb.sl, ol := by show (List.set _ _ _).length = _; rw [List.length_set]; exact hb.ol, t := fun t ht => ?_, s := fun s hs => ?_, o := fun n hn => ?_, m := ⟨by show 0 ≤ _ + 1; omega, by show _ + 1 ≤ _ + 1; omega⟩, e := hb1.e }
      · rcases List.mem_or_eq_of_mem_set ht with h | h
        · exact hb1.t t h
        · rw [h]; exact hn.1
      · rcases List.mem_or_eq_of_mem_set hs with h | h
        · exact hb1.s s h
        · rw [h]; exact hn.2
      · rcases List.mem_or_eq_of_mem_set hn with h | h
        · exact hb1.o n h
        · have := hb.ofAt x.meter.toNat (by omega)
          rw [h]; omega
end Go.Proofs.YtnnknnaimabehaaDoor
namespace Go.Proofs.YtnnknnaimabehaaDoor
open Go.RowKit
attribute [local go_sem] Oper.semAt_some
set_option linter.unusedVariables false
set_option linter.unusedSimpArgs false
set_option maxRecDepth 100000

theorem ent_info : (Tryd.prog.info? 63).map (fun i => (i.zero, i.size)) = some (some (.agg (Ent.none 0).arr), 42) := by kernel_rfl
theorem ent_zero (w : World) : (zeroValue 63).run Tryd.prog w = .ok (.agg (Ent.none 0).arr) w := (zero_of_info ent_info).1 w
theorem ent_size (e : Ent) (h : e.hash.length = 32) : (Tryd.prog.info? 63).map (·.size) = some e.arr.size := by
  rw [Ent.arr_size e h]; exact (zero_of_info ent_info).2
theorem ent_one (e : Ent) : e.arr.all (·.oneCell') = true := by
  simp [Ent.arr, Ent.cells, Value.oneCell']
theorem alloc_new (w : World) : (Instr.alloc 63 true (.tuple #[])).run Tryd.prog w = .ok (.pointer (some ⟨w.heap.size, 0, none⟩)) (w.alloc (.cells (Ent.none 0).arr 63)) := by
  have hz := ent_zero
  generalize (Ent.none 0).arr = Z at hz ⊢
  simp [Instr.alloc, Sem.run_bind, hz, go_sem]
theorem store_new (w : World) (e : Ent) (h : e.hash.length = 32) : (Instr.storeAt 63 (.pointer (some ⟨w.heap.size, 0, none⟩)) (.agg e.arr)).run Tryd.prog (w.alloc (.cells (Ent.none 0).arr 63)) = .ok () (w.alloc (.cells e.arr 63)) :=
  run_storeAt_new w _ _ _ (ent_size e h) (by rw [Ent.arr_size e h]; rfl) (ent_one e)
theorem build_new (w : World) (k : Int) : (Instr.build 63 #[(0, .int .i64 k)]).run Tryd.prog w = .ok (.agg (Ent.none k).arr) w := by
  have hz := ent_zero
  have hk : (Ent.none k).arr = (Ent.none 0).arr.setIfInBounds 0 (.int .i64 k) := by simp [Ent.none, Ent.arr, Ent.cells]
  have hne : (Ent.none 0).arr ≠ #[] := by simp [Ent.arr, Ent.cells]
  rw [hk]
  generalize (Ent.none 0).arr = Z at hz hne ⊢
  simp [Instr.build, Sem.run_bind, hz, hne, go_sem]
section
variable {P : Program} {op : Oper} {a : Act} {w w' : World} {K : Act → World → Prop} {Q : Exit → Act → World → Prop}
theorem wp_build_of (t : TypeId) (ps : Array (Nat × Operand)) (ho : op.op = .build t ps) (vs : Array (Nat × Value)) (hv : (ps.map fun (i, x) => (i, a.eval x)) = vs) (v : Value) (h : (Instr.build t vs).run P w = .ok v w') (hk : K (a.put op.dst v) w') : op.wp P a w K Q := by
  unfold Oper.wp execOp
  subst hv
  simp only [ho, h, Sem.run_bind, Sem.run_pure, Result.andThen_ok]
  exact hk
theorem wp_alloc_of (t : TypeId) (ho : op.op = .alloc t) (v : Value) (h : (Instr.alloc t true (.tuple #[])).run P w = .ok v w') (hk : K (a.put op.dst v) w') : op.wp P a w K Q := by
  unfold Oper.wp execOp
  simp only [ho, h, Sem.run_bind, Sem.run_pure, Result.andThen_ok]
  exact hk
theorem wp_store_of (t : TypeId) (x y : Operand) (ho : op.op = .store t x y) (vx vy : Value) (hx : a.eval x = vx) (hy : a.eval y = vy) (h : (Instr.storeAt t vx vy).run P w = .ok () w') (hk : K (a.put op.dst undef) w') : op.wp P a w K Q := by
  unfold Oper.wp execOp
  simp only [ho, hx, hy, h, Sem.run_bind, Sem.run_pure, Result.andThen_ok]
  exact hk
variable {F : Fence} {n : Nat} {ops : Array Oper} {rest : List Oper}
/-- A whole load at a plain region's list, guarded or not: an arm of the walk. -/
theorem wpList_load_w (ty : TypeId) (x : Operand) (ho : op.op = .load ty x) (b o : Nat) (hx : a.eval x = .pointer (some ⟨b, o, none⟩)) (hw : Region.wanted op (yielded ops a.tmps) = true) (cs : List Value) (d : TypeDesc) (hc : w.rangeAt b o cs)
    (hu : P.underlying ty = some d) (hd : d.isRow = true) (hi : (P.info? ty).map (·.size) = some cs.length)
    (h : wpList P ops Q rest (a.put op.dst (.agg cs.toArray)) w) : wpList P ops Q (op :: rest) a w :=
  wpList_step fun K hK => by rw [if_pos hw]; exact wp_load_mid ty x ho b o hx cs d hc hu hd hi (hK _ _ h)
theorem wpIn_load_mid (ty : TypeId) (x : Operand) (ho : op.op = .load ty x) (b o : Nat) (hx : a.eval x = .pointer (some ⟨b, o, none⟩)) (cs : List Value) (d : TypeDesc) (hc : w.rangeAt b o cs)
    (hu : P.underlying ty = some d) (hd : d.isRow = true) (hi : (P.info? ty).map (·.size) = some cs.length)
    (h : K (a.put op.dst (.agg cs.toArray)) w) : op.wpIn F n P a w K Q := by
  unfold Oper.wpIn
  refine ⟨fun f hf => ?_, ?_⟩
  · simp [Oper.about, ho] at hf
  rw [Oper.semAt_eq _ _ _ (fun c hc => by rw [ho] at hc; cases hc)]
  unfold execOp
  simp only [ho, hx, Instr.loadAt, Instr.sureAddr, Sem.run_bind, Sem.run_pure, Result.andThen_ok, run_loadVar_mid w b o ty cs d hc hu hd hi]
  exact h
theorem wpIn_store_mid (ty : TypeId) (x y : Operand) (ho : op.op = .store ty x y)
    (b o : Nat) (cells : Array Value) (hx : a.eval x = .pointer (some ⟨b, o, none⟩)) (hy : a.eval y = .agg cells)
    (ht : w.there b o cells.size) (hi : (P.info? ty).map (·.size) = some cells.size) (h1 : cells.all (·.oneCell') = true)
    (h : K (a.put op.dst undef) (w.setCells b o cells.toList)) : op.wpIn F n P a w K Q := by
  unfold Oper.wpIn
  refine ⟨fun f hf => ?_, ?_⟩
  · simp [Oper.about, ho] at hf
  rw [Oper.semAt_eq _ _ _ (fun c hc => by rw [ho] at hc; cases hc)]
  unfold execOp
  simp only [ho, hx, hy, Instr.storeAt, Instr.sureAddr, Sem.run_bind, Sem.run_pure, Result.andThen_ok, run_storeVar_mid w b o ty cells ht hi h1]
  exact h
end
end Go.Proofs.YtnnknnaimabehaaDoor
namespace Go.Proofs.YtnnknnaimabehaaDoor
open Go.RowKit
attribute [local go_sem] Oper.semAt_some
set_option linter.unusedVariables false
set_option linter.unusedSimpArgs false
set_option maxRecDepth 100000

/-- The words of the kinds. -/
def wordS (i : Nat) : ByteArray := match i with
  | 1 => ⟨#[105, 110, 116, 101, 114, 118, 97, 108]⟩
  | 2 => ⟨#[115, 117, 115, 112, 101, 99, 116]⟩
  | 3 => ⟨#[114, 101, 112, 108, 97, 99, 101]⟩
  | 4 => ⟨#[99, 111, 114, 114, 101, 99, 116]⟩
  | 5 => ⟨#[115, 101, 97, 108]⟩
  | _ => ⟨#[]⟩
def WordsT (w : World) : Prop := ∀ i, i < 6 → w.cell? ⟨1, i, none⟩ = some (.string (wordS i))
theorem WordsT.up {w w' : World} (h : WordsT w) (hb : Below w.heap.size w w') : WordsT w' := fun i hi =>
  (hb.cell (p := ⟨1, i, none⟩) (World.block_lt_of_cell? w _ (h i hi))).trans (h i hi)
def nameS (k : Int) : ByteArray := if 0 ≤ k ∧ k < 6 then wordS k.toNat else ⟨#[]⟩
theorem name_own (k : Int) (w : World) (hT : WordsT w) : Calls Tryd.prog 45 #[.int .i64 k] w fun e w' => e = .returned (.string (nameS k)) ∧ w' = w := by
  have HT := Lib.hid hT
  clear hT
  by_cases h : 0 ≤ k ∧ k < 6
  · obtain ⟨n, rfl⟩ : ∃ n : Nat, k = n := ⟨k.toNat, by omega⟩
    have e : nameS n = wordS n := by unfold nameS; rw [if_pos h]; rfl
    rw [e]
    have hc := HT.out n (by omega)
    go_in
    go_wp2
    go_ret
    exact ⟨rfl, rfl⟩
  · have e : nameS k = ⟨#[]⟩ := by unfold nameS; rw [if_neg h]
    rw [e]
    go_in
    go_wp2
    all_goals (try (exfalso; omega))
    all_goals (go_ret; exact ⟨rfl, rfl⟩)

def lettersN : List Int := [109, 116, 101, 98, 112, 99, 102, 110, 115]
theorem get_own (x : Ent) (hx : x.ok) (f : Int) (hf : f ∈ lettersN) (w : World) : Calls Tryd.prog 47 #[.agg x.arr, .int .u8 f] w fun e w' => e = .returned (.int .i64 (getE x f)) ∧ w' = w.alloc (.cells x.arr 63) := by
  have hD : Held (w.alloc (.cells x.arr 63)) w.heap.size 63 x.arr := Held.new w _ _
  obtain ⟨c0, c1, c2, c3, c4, c5, c6, c7, c8, c9⟩ := ent_cells hD
  have hn := wrap_u32_i64 x.count hx.2.2.2.2.2.2.2.2.1
  clear hx
  obtain ⟨X, hX⟩ : ∃ X, x.arr = X := ⟨_, rfl⟩
  rw [hX] at hD c0 c1 c2 c3 c4 c5 c6 c7 c8 c9 ⊢
  simp only [lettersN, List.mem_cons, List.not_mem_nil, or_false] at hf
  rcases hf with rfl | rfl | rfl | rfl | rfl | rfl | rfl | rfl | rfl
  all_goals
    go_in
    go_wp2
    go_ret
    exact ⟨by first | (simp [getE, hn]; done) | (simp [getE, IntKind.wrap_i64, wrap64]; done), rfl⟩
theorem bounds_own (k f : Int) (hf : f ∈ lettersN) (w : World) : Calls Tryd.prog 49 #[.int .i64 k, .int .u8 f] w fun e w' => e = .returned (.tuple #[.int .i64 (boundE k f).1, .int .i64 (boundE k f).2.1, .bool (boundE k f).2.2]) ∧ w' = w := by
  simp only [lettersN, List.mem_cons, List.not_mem_nil, or_false] at hf
  by_cases h4 : k = 4
  · subst h4
    rcases hf with rfl | rfl | rfl | rfl | rfl | rfl | rfl | rfl | rfl
    all_goals
      go_in
      go_wp2
      go_ret3
      exact ⟨by simp [boundE], rfl⟩
  · rcases hf with rfl | rfl | rfl | rfl | rfl | rfl | rfl | rfl | rfl
    all_goals
      go_in
      go_wp2
      go_ret3
      exact ⟨by simp [boundE, h4], rfl⟩
/-- A field's cell, and what it then holds. -/
def atE (f : Int) : Nat := if f = 109 then 1 else if f = 116 then 2 else if f = 101 then 3 else if f = 98 then 4 else if f = 112 then 5 else if f = 99 then 6 else if f = 102 then 7 else if f = 110 then 8 else 9
def lvalE (f n : Int) : Value := if f = 110 then .int .u32 (IntKind.u32.wrap n) else if f = 115 then .int .u64 (IntKind.u64.wrap n) else .int .i64 n
theorem setE_arr (e : Ent) (f n : Int) (hf : f ∈ lettersN) : e.arr.setIfInBounds (atE f) (lvalE f n) = (setE e f n).arr := by
  simp only [lettersN, List.mem_cons, List.not_mem_nil, or_false] at hf
  rcases hf with rfl | rfl | rfl | rfl | rfl | rfl | rfl | rfl | rfl <;> simp [atE, lvalE, setE, Ent.arr, Ent.cells]
theorem set_own (y : Ent) (f n : Int) (hf : f ∈ lettersN) (w : World) (g : Nat) (t : TypeId) (hD : Held w g t y.arr) : Calls Tryd.prog 48 #[.pointer (some ⟨g, 0, none⟩), .int .u8 f, .int .i64 n] w fun e w' => (∃ v, e = .returned v) ∧ w' = w.setCell ⟨g, atE f, none⟩ (lvalE f n) ∧ Held w' g t (setE y f n).arr := by
  obtain ⟨c0, c1, c2, c3, c4, c5, c6, c7, c8, c9⟩ := ent_cells hD
  have fz := fun i => hD.frozen i
  have fz1 := fz 1
  have fz2 := fz 2
  have fz3 := fz 3
  have fz4 := fz 4
  have fz5 := fz 5
  have fz6 := fz 6
  have fz7 := fz 7
  have fz8 := fz 8
  have fz9 := fz 9
  clear fz
  have HS := Lib.hid (show Held (w.setCell ⟨g, atE f, none⟩ (lvalE f n)) g t (setE y f n).arr by rw [← setE_arr y f n hf]; exact hD.set _ _)
  clear hD
  simp only [lettersN, List.mem_cons, List.not_mem_nil, or_false] at hf
  rcases hf with rfl | rfl | rfl | rfl | rfl | rfl | rfl | rfl | rfl
  all_goals
    go_in
    go_wp2
    go_end0
    have hS := HS.out
    exact ⟨⟨_, rfl⟩, by first | rfl | simp [atE, lvalE], by first | exact hS | simpa [atE, lvalE] using hS⟩
end Go.Proofs.YtnnknnaimabehaaDoor
namespace Go.Proofs.YtnnknnaimabehaaDoor
open Go.RowKit Go.Shelf
attribute [local go_sem] Oper.semAt_some
set_option linter.unusedVariables false
set_option linter.unusedSimpArgs false
set_option maxRecDepth 100000

/-- The ten letters. -/
def letN (x : Fin 10) : Int := [109, 116, 101, 98, 112, 99, 102, 110, 115, 104].getD x.1 0
def letV (x : Fin 10) : Array Value := #[.int .u8 (letN x)]
def fieldI (k : Int) : List (Fin 10) :=
  if k = 1 then [0, 1, 2, 3, 4, 5, 6] else if k = 2 then [0, 1, 7] else if k = 3 then [0, 1, 7, 8, 9] else if k = 4 then [0, 3, 2, 5, 8, 9] else if k = 5 then [8, 9] else []
theorem fieldI_L (k : Int) : (fieldI k).map letN = fieldL k := by
  unfold fieldI fieldL
  repeat' split
  all_goals rfl

/- The five kinds, one by one. -/
set_option maxHeartbeats 4000000 in
theorem fields1_1 (l Bs n₀ n₁ : Nat) (J Jx : List (Fin 10) → World → Prop)
    (hY : ∀ pre x W, J pre W → pre.length < 7 → YieldAt Fence.wide 4 Tryd.prog l (letV x) W fun e W' =>
      (e = .returned (.bool true) ∧ J (pre ++ [x]) W' ∧ Kx n₀ n₁ W W') ∨ (e = .returned (.bool false) ∧ Jx (pre ++ [x]) W'))
    (W : World) (hcs : W.cell? ⟨Bs, 0, none⟩ = some (.int .i64 1)) (h0 : J [] W) :
    CallsIn Fence.wide 5 Tryd.prog 51 #[.func (.yield l) #[] #[], .pointer (some ⟨Bs, 0, none⟩)] W fun e W' => (∃ v, e = .returned v) ∧
      ((∃ ys, ys = ([0, 1, 2, 3, 4, 5, 6] : List (Fin 10)) ∧ J ys W') ∨ (∃ pre, pre <+: ([0, 1, 2, 3, 4, 5, 6] : List (Fin 10)) ∧ Jx pre W')) := by
  refine callsIn_of_wp Tryd.func51 rfl trivial ?_ rfl
  simp only [Tryd.ntmps51, List.size_toArray, List.length_cons, List.length_nil, Nat.reduceAdd, Nat.reduceSub, Array.replicate_succ, Array.replicate_zero, List.push_toArray, List.append_toArray, List.nil_append, List.cons_append]
  gi_wp2
  gi_loopw [18] (fun n wr => ∃ i : Nat, i ≤ 7 ∧ n = .int .i64 i ∧ J (([0, 1, 2, 3, 4, 5, 6] : List (Fin 10)).take i) wr ∧ Kx n₀ n₁ W wr) (fun n _ => 8 - (intOf n).toNat)
  case atStart => exact ⟨0, Nat.zero_le _, rfl, by simpa using h0, Kx.refl _ _ _⟩
  case round =>
    obtain ⟨i, hi, rfl, hJs, hnx⟩ := hrel
    rcases (show i = 0 ∨ i = 1 ∨ i = 2 ∨ i = 3 ∨ i = 4 ∨ i = 5 ∨ i = 6 ∨ i = 7 by omega) with rfl | rfl | rfl | rfl | rfl | rfl | rfl | rfl
    · obtain ⟨fn, tmps, assign, body, hy, hR⟩ := hY _ (0 : Fin 10) wr hJs (by decide)
      have HX : Hid (([0, 1, 2, 3, 4, 5, 6] : List (Fin 10)).take 0 ++ [(0 : Fin 10)] = ([0, 1, 2, 3, 4, 5, 6] : List (Fin 10)).take 1) := Lib.hid (by decide)
      have hb : (({ data := #[109, 116, 101, 98, 112, 99, 102] } : ByteArray)[0]'(by decide)).toNat = 109 := rfl
      have hy2 : Instr.yield l #[Value.int .u8 ((({ data := #[109, 116, 101, 98, 112, 99, 102] } : ByteArray)[0]'(by decide)).toNat : Nat)] = Instr.yield l #[Value.int .u8 109] := rfl
      change (Instr.yield l #[Value.int .u8 109]).run Tryd.prog wr = _ at hy
      rw [← hy2] at hy
      clear hy2 hb
      clear hJs
      gi_wp2
      refine hR.mono ?_
      rintro e W3 (⟨rfl, hJ3, hk3⟩ | ⟨rfl, hJx3⟩)
      · gi_wp2
        go_roundw
        case rel => exact ⟨1, by omega, rfl, by rw [← HX.out]; exact hJ3, hnx.trans hk3⟩
        case measure => simp [intOf]
      · gi_wp2
        refine bodyPost_ret (results_none rfl _ _ _) rfl ?_
        exact ⟨⟨_, rfl⟩, .inr ⟨_, by rw [HX.out]; exact List.take_prefix _ _, hJx3⟩⟩
    · obtain ⟨fn, tmps, assign, body, hy, hR⟩ := hY _ (1 : Fin 10) wr hJs (by decide)
      have HX : Hid (([0, 1, 2, 3, 4, 5, 6] : List (Fin 10)).take 1 ++ [(1 : Fin 10)] = ([0, 1, 2, 3, 4, 5, 6] : List (Fin 10)).take 2) := Lib.hid (by decide)
      have hb : (({ data := #[109, 116, 101, 98, 112, 99, 102] } : ByteArray)[1]'(by decide)).toNat = 116 := rfl
      have hy2 : Instr.yield l #[Value.int .u8 ((({ data := #[109, 116, 101, 98, 112, 99, 102] } : ByteArray)[1]'(by decide)).toNat : Nat)] = Instr.yield l #[Value.int .u8 116] := rfl
      change (Instr.yield l #[Value.int .u8 116]).run Tryd.prog wr = _ at hy
      rw [← hy2] at hy
      clear hy2 hb
      clear hJs
      gi_wp2
      refine hR.mono ?_
      rintro e W3 (⟨rfl, hJ3, hk3⟩ | ⟨rfl, hJx3⟩)
      · gi_wp2
        go_roundw
        case rel => exact ⟨2, by omega, rfl, by rw [← HX.out]; exact hJ3, hnx.trans hk3⟩
        case measure => simp [intOf]
      · gi_wp2
        refine bodyPost_ret (results_none rfl _ _ _) rfl ?_
        exact ⟨⟨_, rfl⟩, .inr ⟨_, by rw [HX.out]; exact List.take_prefix _ _, hJx3⟩⟩
    · obtain ⟨fn, tmps, assign, body, hy, hR⟩ := hY _ (2 : Fin 10) wr hJs (by decide)
      have HX : Hid (([0, 1, 2, 3, 4, 5, 6] : List (Fin 10)).take 2 ++ [(2 : Fin 10)] = ([0, 1, 2, 3, 4, 5, 6] : List (Fin 10)).take 3) := Lib.hid (by decide)
      have hb : (({ data := #[109, 116, 101, 98, 112, 99, 102] } : ByteArray)[2]'(by decide)).toNat = 101 := rfl
      have hy2 : Instr.yield l #[Value.int .u8 ((({ data := #[109, 116, 101, 98, 112, 99, 102] } : ByteArray)[2]'(by decide)).toNat : Nat)] = Instr.yield l #[Value.int .u8 101] := rfl
      change (Instr.yield l #[Value.int .u8 101]).run Tryd.prog wr = _ at hy
      rw [← hy2] at hy
      clear hy2 hb
      clear hJs
      gi_wp2
      refine hR.mono ?_
      rintro e W3 (⟨rfl, hJ3, hk3⟩ | ⟨rfl, hJx3⟩)
      · gi_wp2
        go_roundw
        case rel => exact ⟨3, by omega, rfl, by rw [← HX.out]; exact hJ3, hnx.trans hk3⟩
        case measure => simp [intOf]
      · gi_wp2
        refine bodyPost_ret (results_none rfl _ _ _) rfl ?_
        exact ⟨⟨_, rfl⟩, .inr ⟨_, by rw [HX.out]; exact List.take_prefix _ _, hJx3⟩⟩
    · obtain ⟨fn, tmps, assign, body, hy, hR⟩ := hY _ (3 : Fin 10) wr hJs (by decide)
      have HX : Hid (([0, 1, 2, 3, 4, 5, 6] : List (Fin 10)).take 3 ++ [(3 : Fin 10)] = ([0, 1, 2, 3, 4, 5, 6] : List (Fin 10)).take 4) := Lib.hid (by decide)
      have hb : (({ data := #[109, 116, 101, 98, 112, 99, 102] } : ByteArray)[3]'(by decide)).toNat = 98 := rfl
      have hy2 : Instr.yield l #[Value.int .u8 ((({ data := #[109, 116, 101, 98, 112, 99, 102] } : ByteArray)[3]'(by decide)).toNat : Nat)] = Instr.yield l #[Value.int .u8 98] := rfl
      change (Instr.yield l #[Value.int .u8 98]).run Tryd.prog wr = _ at hy
      rw [← hy2] at hy
      clear hy2 hb
      clear hJs
      gi_wp2
      refine hR.mono ?_
      rintro e W3 (⟨rfl, hJ3, hk3⟩ | ⟨rfl, hJx3⟩)
      · gi_wp2
        go_roundw
        case rel => exact ⟨4, by omega, rfl, by rw [← HX.out]; exact hJ3, hnx.trans hk3⟩
        case measure => simp [intOf]
      · gi_wp2
        refine bodyPost_ret (results_none rfl _ _ _) rfl ?_
        exact ⟨⟨_, rfl⟩, .inr ⟨_, by rw [HX.out]; exact List.take_prefix _ _, hJx3⟩⟩
    · obtain ⟨fn, tmps, assign, body, hy, hR⟩ := hY _ (4 : Fin 10) wr hJs (by decide)
      have HX : Hid (([0, 1, 2, 3, 4, 5, 6] : List (Fin 10)).take 4 ++ [(4 : Fin 10)] = ([0, 1, 2, 3, 4, 5, 6] : List (Fin 10)).take 5) := Lib.hid (by decide)
      have hb : (({ data := #[109, 116, 101, 98, 112, 99, 102] } : ByteArray)[4]'(by decide)).toNat = 112 := rfl
      have hy2 : Instr.yield l #[Value.int .u8 ((({ data := #[109, 116, 101, 98, 112, 99, 102] } : ByteArray)[4]'(by decide)).toNat : Nat)] = Instr.yield l #[Value.int .u8 112] := rfl
      change (Instr.yield l #[Value.int .u8 112]).run Tryd.prog wr = _ at hy
      rw [← hy2] at hy
      clear hy2 hb
      clear hJs
      gi_wp2
      refine hR.mono ?_
      rintro e W3 (⟨rfl, hJ3, hk3⟩ | ⟨rfl, hJx3⟩)
      · gi_wp2
        go_roundw
        case rel => exact ⟨5, by omega, rfl, by rw [← HX.out]; exact hJ3, hnx.trans hk3⟩
        case measure => simp [intOf]
      · gi_wp2
        refine bodyPost_ret (results_none rfl _ _ _) rfl ?_
        exact ⟨⟨_, rfl⟩, .inr ⟨_, by rw [HX.out]; exact List.take_prefix _ _, hJx3⟩⟩
    · obtain ⟨fn, tmps, assign, body, hy, hR⟩ := hY _ (5 : Fin 10) wr hJs (by decide)
      have HX : Hid (([0, 1, 2, 3, 4, 5, 6] : List (Fin 10)).take 5 ++ [(5 : Fin 10)] = ([0, 1, 2, 3, 4, 5, 6] : List (Fin 10)).take 6) := Lib.hid (by decide)
      have hb : (({ data := #[109, 116, 101, 98, 112, 99, 102] } : ByteArray)[5]'(by decide)).toNat = 99 := rfl
      have hy2 : Instr.yield l #[Value.int .u8 ((({ data := #[109, 116, 101, 98, 112, 99, 102] } : ByteArray)[5]'(by decide)).toNat : Nat)] = Instr.yield l #[Value.int .u8 99] := rfl
      change (Instr.yield l #[Value.int .u8 99]).run Tryd.prog wr = _ at hy
      rw [← hy2] at hy
      clear hy2 hb
      clear hJs
      gi_wp2
      refine hR.mono ?_
      rintro e W3 (⟨rfl, hJ3, hk3⟩ | ⟨rfl, hJx3⟩)
      · gi_wp2
        go_roundw
        case rel => exact ⟨6, by omega, rfl, by rw [← HX.out]; exact hJ3, hnx.trans hk3⟩
        case measure => simp [intOf]
      · gi_wp2
        refine bodyPost_ret (results_none rfl _ _ _) rfl ?_
        exact ⟨⟨_, rfl⟩, .inr ⟨_, by rw [HX.out]; exact List.take_prefix _ _, hJx3⟩⟩
    · obtain ⟨fn, tmps, assign, body, hy, hR⟩ := hY _ (6 : Fin 10) wr hJs (by decide)
      have HX : Hid (([0, 1, 2, 3, 4, 5, 6] : List (Fin 10)).take 6 ++ [(6 : Fin 10)] = ([0, 1, 2, 3, 4, 5, 6] : List (Fin 10)).take 7) := Lib.hid (by decide)
      have hb : (({ data := #[109, 116, 101, 98, 112, 99, 102] } : ByteArray)[6]'(by decide)).toNat = 102 := rfl
      have hy2 : Instr.yield l #[Value.int .u8 ((({ data := #[109, 116, 101, 98, 112, 99, 102] } : ByteArray)[6]'(by decide)).toNat : Nat)] = Instr.yield l #[Value.int .u8 102] := rfl
      change (Instr.yield l #[Value.int .u8 102]).run Tryd.prog wr = _ at hy
      rw [← hy2] at hy
      clear hy2 hb
      clear hJs
      gi_wp2
      refine hR.mono ?_
      rintro e W3 (⟨rfl, hJ3, hk3⟩ | ⟨rfl, hJx3⟩)
      · gi_wp2
        go_roundw
        case rel => exact ⟨7, by omega, rfl, by rw [← HX.out]; exact hJ3, hnx.trans hk3⟩
        case measure => simp [intOf]
      · gi_wp2
        refine bodyPost_ret (results_none rfl _ _ _) rfl ?_
        exact ⟨⟨_, rfl⟩, .inr ⟨_, by rw [HX.out]; exact List.take_prefix _ _, hJx3⟩⟩
    · gi_wp2
      go_end0
      exact ⟨⟨_, rfl⟩, .inl ⟨_, rfl, hJs⟩⟩
set_option maxHeartbeats 4000000 in
theorem fields1_2 (l Bs n₀ n₁ : Nat) (J Jx : List (Fin 10) → World → Prop)
    (hY : ∀ pre x W, J pre W → pre.length < 7 → YieldAt Fence.wide 4 Tryd.prog l (letV x) W fun e W' =>
      (e = .returned (.bool true) ∧ J (pre ++ [x]) W' ∧ Kx n₀ n₁ W W') ∨ (e = .returned (.bool false) ∧ Jx (pre ++ [x]) W'))
    (W : World) (hcs : W.cell? ⟨Bs, 0, none⟩ = some (.int .i64 2)) (h0 : J [] W) :
    CallsIn Fence.wide 5 Tryd.prog 51 #[.func (.yield l) #[] #[], .pointer (some ⟨Bs, 0, none⟩)] W fun e W' => (∃ v, e = .returned v) ∧
      ((∃ ys, ys = ([0, 1, 7] : List (Fin 10)) ∧ J ys W') ∨ (∃ pre, pre <+: ([0, 1, 7] : List (Fin 10)) ∧ Jx pre W')) := by
  refine callsIn_of_wp Tryd.func51 rfl trivial ?_ rfl
  simp only [Tryd.ntmps51, List.size_toArray, List.length_cons, List.length_nil, Nat.reduceAdd, Nat.reduceSub, Array.replicate_succ, Array.replicate_zero, List.push_toArray, List.append_toArray, List.nil_append, List.cons_append]
  gi_wp2
  gi_loopw [18] (fun n wr => ∃ i : Nat, i ≤ 3 ∧ n = .int .i64 i ∧ J (([0, 1, 7] : List (Fin 10)).take i) wr ∧ Kx n₀ n₁ W wr) (fun n _ => 4 - (intOf n).toNat)
  case atStart => exact ⟨0, Nat.zero_le _, rfl, by simpa using h0, Kx.refl _ _ _⟩
  case round =>
    obtain ⟨i, hi, rfl, hJs, hnx⟩ := hrel
    rcases (show i = 0 ∨ i = 1 ∨ i = 2 ∨ i = 3 by omega) with rfl | rfl | rfl | rfl
    · obtain ⟨fn, tmps, assign, body, hy, hR⟩ := hY _ (0 : Fin 10) wr hJs (by decide)
      have HX : Hid (([0, 1, 7] : List (Fin 10)).take 0 ++ [(0 : Fin 10)] = ([0, 1, 7] : List (Fin 10)).take 1) := Lib.hid (by decide)
      have hb : (({ data := #[109, 116, 110] } : ByteArray)[0]'(by decide)).toNat = 109 := rfl
      have hy2 : Instr.yield l #[Value.int .u8 ((({ data := #[109, 116, 110] } : ByteArray)[0]'(by decide)).toNat : Nat)] = Instr.yield l #[Value.int .u8 109] := rfl
      change (Instr.yield l #[Value.int .u8 109]).run Tryd.prog wr = _ at hy
      rw [← hy2] at hy
      clear hy2 hb
      clear hJs
      gi_wp2
      refine hR.mono ?_
      rintro e W3 (⟨rfl, hJ3, hk3⟩ | ⟨rfl, hJx3⟩)
      · gi_wp2
        go_roundw
        case rel => exact ⟨1, by omega, rfl, by rw [← HX.out]; exact hJ3, hnx.trans hk3⟩
        case measure => simp [intOf]
      · gi_wp2
        refine bodyPost_ret (results_none rfl _ _ _) rfl ?_
        exact ⟨⟨_, rfl⟩, .inr ⟨_, by rw [HX.out]; exact List.take_prefix _ _, hJx3⟩⟩
    · obtain ⟨fn, tmps, assign, body, hy, hR⟩ := hY _ (1 : Fin 10) wr hJs (by decide)
      have HX : Hid (([0, 1, 7] : List (Fin 10)).take 1 ++ [(1 : Fin 10)] = ([0, 1, 7] : List (Fin 10)).take 2) := Lib.hid (by decide)
      have hb : (({ data := #[109, 116, 110] } : ByteArray)[1]'(by decide)).toNat = 116 := rfl
      have hy2 : Instr.yield l #[Value.int .u8 ((({ data := #[109, 116, 110] } : ByteArray)[1]'(by decide)).toNat : Nat)] = Instr.yield l #[Value.int .u8 116] := rfl
      change (Instr.yield l #[Value.int .u8 116]).run Tryd.prog wr = _ at hy
      rw [← hy2] at hy
      clear hy2 hb
      clear hJs
      gi_wp2
      refine hR.mono ?_
      rintro e W3 (⟨rfl, hJ3, hk3⟩ | ⟨rfl, hJx3⟩)
      · gi_wp2
        go_roundw
        case rel => exact ⟨2, by omega, rfl, by rw [← HX.out]; exact hJ3, hnx.trans hk3⟩
        case measure => simp [intOf]
      · gi_wp2
        refine bodyPost_ret (results_none rfl _ _ _) rfl ?_
        exact ⟨⟨_, rfl⟩, .inr ⟨_, by rw [HX.out]; exact List.take_prefix _ _, hJx3⟩⟩
    · obtain ⟨fn, tmps, assign, body, hy, hR⟩ := hY _ (7 : Fin 10) wr hJs (by decide)
      have HX : Hid (([0, 1, 7] : List (Fin 10)).take 2 ++ [(7 : Fin 10)] = ([0, 1, 7] : List (Fin 10)).take 3) := Lib.hid (by decide)
      have hb : (({ data := #[109, 116, 110] } : ByteArray)[2]'(by decide)).toNat = 110 := rfl
      have hy2 : Instr.yield l #[Value.int .u8 ((({ data := #[109, 116, 110] } : ByteArray)[2]'(by decide)).toNat : Nat)] = Instr.yield l #[Value.int .u8 110] := rfl
      change (Instr.yield l #[Value.int .u8 110]).run Tryd.prog wr = _ at hy
      rw [← hy2] at hy
      clear hy2 hb
      clear hJs
      gi_wp2
      refine hR.mono ?_
      rintro e W3 (⟨rfl, hJ3, hk3⟩ | ⟨rfl, hJx3⟩)
      · gi_wp2
        go_roundw
        case rel => exact ⟨3, by omega, rfl, by rw [← HX.out]; exact hJ3, hnx.trans hk3⟩
        case measure => simp [intOf]
      · gi_wp2
        refine bodyPost_ret (results_none rfl _ _ _) rfl ?_
        exact ⟨⟨_, rfl⟩, .inr ⟨_, by rw [HX.out]; exact List.take_prefix _ _, hJx3⟩⟩
    · gi_wp2
      go_end0
      exact ⟨⟨_, rfl⟩, .inl ⟨_, rfl, hJs⟩⟩
set_option maxHeartbeats 4000000 in
theorem fields1_3 (l Bs n₀ n₁ : Nat) (J Jx : List (Fin 10) → World → Prop)
    (hY : ∀ pre x W, J pre W → pre.length < 7 → YieldAt Fence.wide 4 Tryd.prog l (letV x) W fun e W' =>
      (e = .returned (.bool true) ∧ J (pre ++ [x]) W' ∧ Kx n₀ n₁ W W') ∨ (e = .returned (.bool false) ∧ Jx (pre ++ [x]) W'))
    (W : World) (hcs : W.cell? ⟨Bs, 0, none⟩ = some (.int .i64 3)) (h0 : J [] W) :
    CallsIn Fence.wide 5 Tryd.prog 51 #[.func (.yield l) #[] #[], .pointer (some ⟨Bs, 0, none⟩)] W fun e W' => (∃ v, e = .returned v) ∧
      ((∃ ys, ys = ([0, 1, 7, 8, 9] : List (Fin 10)) ∧ J ys W') ∨ (∃ pre, pre <+: ([0, 1, 7, 8, 9] : List (Fin 10)) ∧ Jx pre W')) := by
  refine callsIn_of_wp Tryd.func51 rfl trivial ?_ rfl
  simp only [Tryd.ntmps51, List.size_toArray, List.length_cons, List.length_nil, Nat.reduceAdd, Nat.reduceSub, Array.replicate_succ, Array.replicate_zero, List.push_toArray, List.append_toArray, List.nil_append, List.cons_append]
  gi_wp2
  gi_loopw [18] (fun n wr => ∃ i : Nat, i ≤ 5 ∧ n = .int .i64 i ∧ J (([0, 1, 7, 8, 9] : List (Fin 10)).take i) wr ∧ Kx n₀ n₁ W wr) (fun n _ => 6 - (intOf n).toNat)
  case atStart => exact ⟨0, Nat.zero_le _, rfl, by simpa using h0, Kx.refl _ _ _⟩
  case round =>
    obtain ⟨i, hi, rfl, hJs, hnx⟩ := hrel
    rcases (show i = 0 ∨ i = 1 ∨ i = 2 ∨ i = 3 ∨ i = 4 ∨ i = 5 by omega) with rfl | rfl | rfl | rfl | rfl | rfl
    · obtain ⟨fn, tmps, assign, body, hy, hR⟩ := hY _ (0 : Fin 10) wr hJs (by decide)
      have HX : Hid (([0, 1, 7, 8, 9] : List (Fin 10)).take 0 ++ [(0 : Fin 10)] = ([0, 1, 7, 8, 9] : List (Fin 10)).take 1) := Lib.hid (by decide)
      have hb : (({ data := #[109, 116, 110, 115, 104] } : ByteArray)[0]'(by decide)).toNat = 109 := rfl
      have hy2 : Instr.yield l #[Value.int .u8 ((({ data := #[109, 116, 110, 115, 104] } : ByteArray)[0]'(by decide)).toNat : Nat)] = Instr.yield l #[Value.int .u8 109] := rfl
      change (Instr.yield l #[Value.int .u8 109]).run Tryd.prog wr = _ at hy
      rw [← hy2] at hy
      clear hy2 hb
      clear hJs
      gi_wp2
      refine hR.mono ?_
      rintro e W3 (⟨rfl, hJ3, hk3⟩ | ⟨rfl, hJx3⟩)
      · gi_wp2
        go_roundw
        case rel => exact ⟨1, by omega, rfl, by rw [← HX.out]; exact hJ3, hnx.trans hk3⟩
        case measure => simp [intOf]
      · gi_wp2
        refine bodyPost_ret (results_none rfl _ _ _) rfl ?_
        exact ⟨⟨_, rfl⟩, .inr ⟨_, by rw [HX.out]; exact List.take_prefix _ _, hJx3⟩⟩
    · obtain ⟨fn, tmps, assign, body, hy, hR⟩ := hY _ (1 : Fin 10) wr hJs (by decide)
      have HX : Hid (([0, 1, 7, 8, 9] : List (Fin 10)).take 1 ++ [(1 : Fin 10)] = ([0, 1, 7, 8, 9] : List (Fin 10)).take 2) := Lib.hid (by decide)
      have hb : (({ data := #[109, 116, 110, 115, 104] } : ByteArray)[1]'(by decide)).toNat = 116 := rfl
      have hy2 : Instr.yield l #[Value.int .u8 ((({ data := #[109, 116, 110, 115, 104] } : ByteArray)[1]'(by decide)).toNat : Nat)] = Instr.yield l #[Value.int .u8 116] := rfl
      change (Instr.yield l #[Value.int .u8 116]).run Tryd.prog wr = _ at hy
      rw [← hy2] at hy
      clear hy2 hb
      clear hJs
      gi_wp2
      refine hR.mono ?_
      rintro e W3 (⟨rfl, hJ3, hk3⟩ | ⟨rfl, hJx3⟩)
      · gi_wp2
        go_roundw
        case rel => exact ⟨2, by omega, rfl, by rw [← HX.out]; exact hJ3, hnx.trans hk3⟩
        case measure => simp [intOf]
      · gi_wp2
        refine bodyPost_ret (results_none rfl _ _ _) rfl ?_
        exact ⟨⟨_, rfl⟩, .inr ⟨_, by rw [HX.out]; exact List.take_prefix _ _, hJx3⟩⟩
    · obtain ⟨fn, tmps, assign, body, hy, hR⟩ := hY _ (7 : Fin 10) wr hJs (by decide)
      have HX : Hid (([0, 1, 7, 8, 9] : List (Fin 10)).take 2 ++ [(7 : Fin 10)] = ([0, 1, 7, 8, 9] : List (Fin 10)).take 3) := Lib.hid (by decide)
      have hb : (({ data := #[109, 116, 110, 115, 104] } : ByteArray)[2]'(by decide)).toNat = 110 := rfl
      have hy2 : Instr.yield l #[Value.int .u8 ((({ data := #[109, 116, 110, 115, 104] } : ByteArray)[2]'(by decide)).toNat : Nat)] = Instr.yield l #[Value.int .u8 110] := rfl
      change (Instr.yield l #[Value.int .u8 110]).run Tryd.prog wr = _ at hy
      rw [← hy2] at hy
      clear hy2 hb
      clear hJs
      gi_wp2
      refine hR.mono ?_
      rintro e W3 (⟨rfl, hJ3, hk3⟩ | ⟨rfl, hJx3⟩)
      · gi_wp2
        go_roundw
        case rel => exact ⟨3, by omega, rfl, by rw [← HX.out]; exact hJ3, hnx.trans hk3⟩
        case measure => simp [intOf]
      · gi_wp2
        refine bodyPost_ret (results_none rfl _ _ _) rfl ?_
        exact ⟨⟨_, rfl⟩, .inr ⟨_, by rw [HX.out]; exact List.take_prefix _ _, hJx3⟩⟩
    · obtain ⟨fn, tmps, assign, body, hy, hR⟩ := hY _ (8 : Fin 10) wr hJs (by decide)
      have HX : Hid (([0, 1, 7, 8, 9] : List (Fin 10)).take 3 ++ [(8 : Fin 10)] = ([0, 1, 7, 8, 9] : List (Fin 10)).take 4) := Lib.hid (by decide)
      have hb : (({ data := #[109, 116, 110, 115, 104] } : ByteArray)[3]'(by decide)).toNat = 115 := rfl
      have hy2 : Instr.yield l #[Value.int .u8 ((({ data := #[109, 116, 110, 115, 104] } : ByteArray)[3]'(by decide)).toNat : Nat)] = Instr.yield l #[Value.int .u8 115] := rfl
      change (Instr.yield l #[Value.int .u8 115]).run Tryd.prog wr = _ at hy
      rw [← hy2] at hy
      clear hy2 hb
      clear hJs
      gi_wp2
      refine hR.mono ?_
      rintro e W3 (⟨rfl, hJ3, hk3⟩ | ⟨rfl, hJx3⟩)
      · gi_wp2
        go_roundw
        case rel => exact ⟨4, by omega, rfl, by rw [← HX.out]; exact hJ3, hnx.trans hk3⟩
        case measure => simp [intOf]
      · gi_wp2
        refine bodyPost_ret (results_none rfl _ _ _) rfl ?_
        exact ⟨⟨_, rfl⟩, .inr ⟨_, by rw [HX.out]; exact List.take_prefix _ _, hJx3⟩⟩
    · obtain ⟨fn, tmps, assign, body, hy, hR⟩ := hY _ (9 : Fin 10) wr hJs (by decide)
      have HX : Hid (([0, 1, 7, 8, 9] : List (Fin 10)).take 4 ++ [(9 : Fin 10)] = ([0, 1, 7, 8, 9] : List (Fin 10)).take 5) := Lib.hid (by decide)
      have hb : (({ data := #[109, 116, 110, 115, 104] } : ByteArray)[4]'(by decide)).toNat = 104 := rfl
      have hy2 : Instr.yield l #[Value.int .u8 ((({ data := #[109, 116, 110, 115, 104] } : ByteArray)[4]'(by decide)).toNat : Nat)] = Instr.yield l #[Value.int .u8 104] := rfl
      change (Instr.yield l #[Value.int .u8 104]).run Tryd.prog wr = _ at hy
      rw [← hy2] at hy
      clear hy2 hb
      clear hJs
      gi_wp2
      refine hR.mono ?_
      rintro e W3 (⟨rfl, hJ3, hk3⟩ | ⟨rfl, hJx3⟩)
      · gi_wp2
        go_roundw
        case rel => exact ⟨5, by omega, rfl, by rw [← HX.out]; exact hJ3, hnx.trans hk3⟩
        case measure => simp [intOf]
      · gi_wp2
        refine bodyPost_ret (results_none rfl _ _ _) rfl ?_
        exact ⟨⟨_, rfl⟩, .inr ⟨_, by rw [HX.out]; exact List.take_prefix _ _, hJx3⟩⟩
    · gi_wp2
      go_end0
      exact ⟨⟨_, rfl⟩, .inl ⟨_, rfl, hJs⟩⟩
set_option maxHeartbeats 4000000 in
theorem fields1_4 (l Bs n₀ n₁ : Nat) (J Jx : List (Fin 10) → World → Prop)
    (hY : ∀ pre x W, J pre W → pre.length < 7 → YieldAt Fence.wide 4 Tryd.prog l (letV x) W fun e W' =>
      (e = .returned (.bool true) ∧ J (pre ++ [x]) W' ∧ Kx n₀ n₁ W W') ∨ (e = .returned (.bool false) ∧ Jx (pre ++ [x]) W'))
    (W : World) (hcs : W.cell? ⟨Bs, 0, none⟩ = some (.int .i64 4)) (h0 : J [] W) :
    CallsIn Fence.wide 5 Tryd.prog 51 #[.func (.yield l) #[] #[], .pointer (some ⟨Bs, 0, none⟩)] W fun e W' => (∃ v, e = .returned v) ∧
      ((∃ ys, ys = ([0, 3, 2, 5, 8, 9] : List (Fin 10)) ∧ J ys W') ∨ (∃ pre, pre <+: ([0, 3, 2, 5, 8, 9] : List (Fin 10)) ∧ Jx pre W')) := by
  refine callsIn_of_wp Tryd.func51 rfl trivial ?_ rfl
  simp only [Tryd.ntmps51, List.size_toArray, List.length_cons, List.length_nil, Nat.reduceAdd, Nat.reduceSub, Array.replicate_succ, Array.replicate_zero, List.push_toArray, List.append_toArray, List.nil_append, List.cons_append]
  gi_wp2
  gi_loopw [18] (fun n wr => ∃ i : Nat, i ≤ 6 ∧ n = .int .i64 i ∧ J (([0, 3, 2, 5, 8, 9] : List (Fin 10)).take i) wr ∧ Kx n₀ n₁ W wr) (fun n _ => 7 - (intOf n).toNat)
  case atStart => exact ⟨0, Nat.zero_le _, rfl, by simpa using h0, Kx.refl _ _ _⟩
  case round =>
    obtain ⟨i, hi, rfl, hJs, hnx⟩ := hrel
    rcases (show i = 0 ∨ i = 1 ∨ i = 2 ∨ i = 3 ∨ i = 4 ∨ i = 5 ∨ i = 6 by omega) with rfl | rfl | rfl | rfl | rfl | rfl | rfl
    · obtain ⟨fn, tmps, assign, body, hy, hR⟩ := hY _ (0 : Fin 10) wr hJs (by decide)
      have HX : Hid (([0, 3, 2, 5, 8, 9] : List (Fin 10)).take 0 ++ [(0 : Fin 10)] = ([0, 3, 2, 5, 8, 9] : List (Fin 10)).take 1) := Lib.hid (by decide)
      have hb : (({ data := #[109, 98, 101, 99, 115, 104] } : ByteArray)[0]'(by decide)).toNat = 109 := rfl
      have hy2 : Instr.yield l #[Value.int .u8 ((({ data := #[109, 98, 101, 99, 115, 104] } : ByteArray)[0]'(by decide)).toNat : Nat)] = Instr.yield l #[Value.int .u8 109] := rfl
      change (Instr.yield l #[Value.int .u8 109]).run Tryd.prog wr = _ at hy
      rw [← hy2] at hy
      clear hy2 hb
      clear hJs
      gi_wp2
      refine hR.mono ?_
      rintro e W3 (⟨rfl, hJ3, hk3⟩ | ⟨rfl, hJx3⟩)
      · gi_wp2
        go_roundw
        case rel => exact ⟨1, by omega, rfl, by rw [← HX.out]; exact hJ3, hnx.trans hk3⟩
        case measure => simp [intOf]
      · gi_wp2
        refine bodyPost_ret (results_none rfl _ _ _) rfl ?_
        exact ⟨⟨_, rfl⟩, .inr ⟨_, by rw [HX.out]; exact List.take_prefix _ _, hJx3⟩⟩
    · obtain ⟨fn, tmps, assign, body, hy, hR⟩ := hY _ (3 : Fin 10) wr hJs (by decide)
      have HX : Hid (([0, 3, 2, 5, 8, 9] : List (Fin 10)).take 1 ++ [(3 : Fin 10)] = ([0, 3, 2, 5, 8, 9] : List (Fin 10)).take 2) := Lib.hid (by decide)
      have hb : (({ data := #[109, 98, 101, 99, 115, 104] } : ByteArray)[1]'(by decide)).toNat = 98 := rfl
      have hy2 : Instr.yield l #[Value.int .u8 ((({ data := #[109, 98, 101, 99, 115, 104] } : ByteArray)[1]'(by decide)).toNat : Nat)] = Instr.yield l #[Value.int .u8 98] := rfl
      change (Instr.yield l #[Value.int .u8 98]).run Tryd.prog wr = _ at hy
      rw [← hy2] at hy
      clear hy2 hb
      clear hJs
      gi_wp2
      refine hR.mono ?_
      rintro e W3 (⟨rfl, hJ3, hk3⟩ | ⟨rfl, hJx3⟩)
      · gi_wp2
        go_roundw
        case rel => exact ⟨2, by omega, rfl, by rw [← HX.out]; exact hJ3, hnx.trans hk3⟩
        case measure => simp [intOf]
      · gi_wp2
        refine bodyPost_ret (results_none rfl _ _ _) rfl ?_
        exact ⟨⟨_, rfl⟩, .inr ⟨_, by rw [HX.out]; exact List.take_prefix _ _, hJx3⟩⟩
    · obtain ⟨fn, tmps, assign, body, hy, hR⟩ := hY _ (2 : Fin 10) wr hJs (by decide)
      have HX : Hid (([0, 3, 2, 5, 8, 9] : List (Fin 10)).take 2 ++ [(2 : Fin 10)] = ([0, 3, 2, 5, 8, 9] : List (Fin 10)).take 3) := Lib.hid (by decide)
      have hb : (({ data := #[109, 98, 101, 99, 115, 104] } : ByteArray)[2]'(by decide)).toNat = 101 := rfl
      have hy2 : Instr.yield l #[Value.int .u8 ((({ data := #[109, 98, 101, 99, 115, 104] } : ByteArray)[2]'(by decide)).toNat : Nat)] = Instr.yield l #[Value.int .u8 101] := rfl
      change (Instr.yield l #[Value.int .u8 101]).run Tryd.prog wr = _ at hy
      rw [← hy2] at hy
      clear hy2 hb
      clear hJs
      gi_wp2
      refine hR.mono ?_
      rintro e W3 (⟨rfl, hJ3, hk3⟩ | ⟨rfl, hJx3⟩)
      · gi_wp2
        go_roundw
        case rel => exact ⟨3, by omega, rfl, by rw [← HX.out]; exact hJ3, hnx.trans hk3⟩
        case measure => simp [intOf]
      · gi_wp2
        refine bodyPost_ret (results_none rfl _ _ _) rfl ?_
        exact ⟨⟨_, rfl⟩, .inr ⟨_, by rw [HX.out]; exact List.take_prefix _ _, hJx3⟩⟩
    · obtain ⟨fn, tmps, assign, body, hy, hR⟩ := hY _ (5 : Fin 10) wr hJs (by decide)
      have HX : Hid (([0, 3, 2, 5, 8, 9] : List (Fin 10)).take 3 ++ [(5 : Fin 10)] = ([0, 3, 2, 5, 8, 9] : List (Fin 10)).take 4) := Lib.hid (by decide)
      have hb : (({ data := #[109, 98, 101, 99, 115, 104] } : ByteArray)[3]'(by decide)).toNat = 99 := rfl
      have hy2 : Instr.yield l #[Value.int .u8 ((({ data := #[109, 98, 101, 99, 115, 104] } : ByteArray)[3]'(by decide)).toNat : Nat)] = Instr.yield l #[Value.int .u8 99] := rfl
      change (Instr.yield l #[Value.int .u8 99]).run Tryd.prog wr = _ at hy
      rw [← hy2] at hy
      clear hy2 hb
      clear hJs
      gi_wp2
      refine hR.mono ?_
      rintro e W3 (⟨rfl, hJ3, hk3⟩ | ⟨rfl, hJx3⟩)
      · gi_wp2
        go_roundw
        case rel => exact ⟨4, by omega, rfl, by rw [← HX.out]; exact hJ3, hnx.trans hk3⟩
        case measure => simp [intOf]
      · gi_wp2
        refine bodyPost_ret (results_none rfl _ _ _) rfl ?_
        exact ⟨⟨_, rfl⟩, .inr ⟨_, by rw [HX.out]; exact List.take_prefix _ _, hJx3⟩⟩
    · obtain ⟨fn, tmps, assign, body, hy, hR⟩ := hY _ (8 : Fin 10) wr hJs (by decide)
      have HX : Hid (([0, 3, 2, 5, 8, 9] : List (Fin 10)).take 4 ++ [(8 : Fin 10)] = ([0, 3, 2, 5, 8, 9] : List (Fin 10)).take 5) := Lib.hid (by decide)
      have hb : (({ data := #[109, 98, 101, 99, 115, 104] } : ByteArray)[4]'(by decide)).toNat = 115 := rfl
      have hy2 : Instr.yield l #[Value.int .u8 ((({ data := #[109, 98, 101, 99, 115, 104] } : ByteArray)[4]'(by decide)).toNat : Nat)] = Instr.yield l #[Value.int .u8 115] := rfl
      change (Instr.yield l #[Value.int .u8 115]).run Tryd.prog wr = _ at hy
      rw [← hy2] at hy
      clear hy2 hb
      clear hJs
      gi_wp2
      refine hR.mono ?_
      rintro e W3 (⟨rfl, hJ3, hk3⟩ | ⟨rfl, hJx3⟩)
      · gi_wp2
        go_roundw
        case rel => exact ⟨5, by omega, rfl, by rw [← HX.out]; exact hJ3, hnx.trans hk3⟩
        case measure => simp [intOf]
      · gi_wp2
        refine bodyPost_ret (results_none rfl _ _ _) rfl ?_
        exact ⟨⟨_, rfl⟩, .inr ⟨_, by rw [HX.out]; exact List.take_prefix _ _, hJx3⟩⟩
    · obtain ⟨fn, tmps, assign, body, hy, hR⟩ := hY _ (9 : Fin 10) wr hJs (by decide)
      have HX : Hid (([0, 3, 2, 5, 8, 9] : List (Fin 10)).take 5 ++ [(9 : Fin 10)] = ([0, 3, 2, 5, 8, 9] : List (Fin 10)).take 6) := Lib.hid (by decide)
      have hb : (({ data := #[109, 98, 101, 99, 115, 104] } : ByteArray)[5]'(by decide)).toNat = 104 := rfl
      have hy2 : Instr.yield l #[Value.int .u8 ((({ data := #[109, 98, 101, 99, 115, 104] } : ByteArray)[5]'(by decide)).toNat : Nat)] = Instr.yield l #[Value.int .u8 104] := rfl
      change (Instr.yield l #[Value.int .u8 104]).run Tryd.prog wr = _ at hy
      rw [← hy2] at hy
      clear hy2 hb
      clear hJs
      gi_wp2
      refine hR.mono ?_
      rintro e W3 (⟨rfl, hJ3, hk3⟩ | ⟨rfl, hJx3⟩)
      · gi_wp2
        go_roundw
        case rel => exact ⟨6, by omega, rfl, by rw [← HX.out]; exact hJ3, hnx.trans hk3⟩
        case measure => simp [intOf]
      · gi_wp2
        refine bodyPost_ret (results_none rfl _ _ _) rfl ?_
        exact ⟨⟨_, rfl⟩, .inr ⟨_, by rw [HX.out]; exact List.take_prefix _ _, hJx3⟩⟩
    · gi_wp2
      go_end0
      exact ⟨⟨_, rfl⟩, .inl ⟨_, rfl, hJs⟩⟩
set_option maxHeartbeats 4000000 in
theorem fields1_5 (l Bs n₀ n₁ : Nat) (J Jx : List (Fin 10) → World → Prop)
    (hY : ∀ pre x W, J pre W → pre.length < 7 → YieldAt Fence.wide 4 Tryd.prog l (letV x) W fun e W' =>
      (e = .returned (.bool true) ∧ J (pre ++ [x]) W' ∧ Kx n₀ n₁ W W') ∨ (e = .returned (.bool false) ∧ Jx (pre ++ [x]) W'))
    (W : World) (hcs : W.cell? ⟨Bs, 0, none⟩ = some (.int .i64 5)) (h0 : J [] W) :
    CallsIn Fence.wide 5 Tryd.prog 51 #[.func (.yield l) #[] #[], .pointer (some ⟨Bs, 0, none⟩)] W fun e W' => (∃ v, e = .returned v) ∧
      ((∃ ys, ys = ([8, 9] : List (Fin 10)) ∧ J ys W') ∨ (∃ pre, pre <+: ([8, 9] : List (Fin 10)) ∧ Jx pre W')) := by
  refine callsIn_of_wp Tryd.func51 rfl trivial ?_ rfl
  simp only [Tryd.ntmps51, List.size_toArray, List.length_cons, List.length_nil, Nat.reduceAdd, Nat.reduceSub, Array.replicate_succ, Array.replicate_zero, List.push_toArray, List.append_toArray, List.nil_append, List.cons_append]
  gi_wp2
  gi_loopw [18] (fun n wr => ∃ i : Nat, i ≤ 2 ∧ n = .int .i64 i ∧ J (([8, 9] : List (Fin 10)).take i) wr ∧ Kx n₀ n₁ W wr) (fun n _ => 3 - (intOf n).toNat)
  case atStart => exact ⟨0, Nat.zero_le _, rfl, by simpa using h0, Kx.refl _ _ _⟩
  case round =>
    obtain ⟨i, hi, rfl, hJs, hnx⟩ := hrel
    rcases (show i = 0 ∨ i = 1 ∨ i = 2 by omega) with rfl | rfl | rfl
    · obtain ⟨fn, tmps, assign, body, hy, hR⟩ := hY _ (8 : Fin 10) wr hJs (by decide)
      have HX : Hid (([8, 9] : List (Fin 10)).take 0 ++ [(8 : Fin 10)] = ([8, 9] : List (Fin 10)).take 1) := Lib.hid (by decide)
      have hb : (({ data := #[115, 104] } : ByteArray)[0]'(by decide)).toNat = 115 := rfl
      have hy2 : Instr.yield l #[Value.int .u8 ((({ data := #[115, 104] } : ByteArray)[0]'(by decide)).toNat : Nat)] = Instr.yield l #[Value.int .u8 115] := rfl
      change (Instr.yield l #[Value.int .u8 115]).run Tryd.prog wr = _ at hy
      rw [← hy2] at hy
      clear hy2 hb
      clear hJs
      gi_wp2
      refine hR.mono ?_
      rintro e W3 (⟨rfl, hJ3, hk3⟩ | ⟨rfl, hJx3⟩)
      · gi_wp2
        go_roundw
        case rel => exact ⟨1, by omega, rfl, by rw [← HX.out]; exact hJ3, hnx.trans hk3⟩
        case measure => simp [intOf]
      · gi_wp2
        refine bodyPost_ret (results_none rfl _ _ _) rfl ?_
        exact ⟨⟨_, rfl⟩, .inr ⟨_, by rw [HX.out]; exact List.take_prefix _ _, hJx3⟩⟩
    · obtain ⟨fn, tmps, assign, body, hy, hR⟩ := hY _ (9 : Fin 10) wr hJs (by decide)
      have HX : Hid (([8, 9] : List (Fin 10)).take 1 ++ [(9 : Fin 10)] = ([8, 9] : List (Fin 10)).take 2) := Lib.hid (by decide)
      have hb : (({ data := #[115, 104] } : ByteArray)[1]'(by decide)).toNat = 104 := rfl
      have hy2 : Instr.yield l #[Value.int .u8 ((({ data := #[115, 104] } : ByteArray)[1]'(by decide)).toNat : Nat)] = Instr.yield l #[Value.int .u8 104] := rfl
      change (Instr.yield l #[Value.int .u8 104]).run Tryd.prog wr = _ at hy
      rw [← hy2] at hy
      clear hy2 hb
      clear hJs
      gi_wp2
      refine hR.mono ?_
      rintro e W3 (⟨rfl, hJ3, hk3⟩ | ⟨rfl, hJx3⟩)
      · gi_wp2
        go_roundw
        case rel => exact ⟨2, by omega, rfl, by rw [← HX.out]; exact hJ3, hnx.trans hk3⟩
        case measure => simp [intOf]
      · gi_wp2
        refine bodyPost_ret (results_none rfl _ _ _) rfl ?_
        exact ⟨⟨_, rfl⟩, .inr ⟨_, by rw [HX.out]; exact List.take_prefix _ _, hJx3⟩⟩
    · gi_wp2
      go_end0
      exact ⟨⟨_, rfl⟩, .inl ⟨_, rfl, hJs⟩⟩
theorem fields1_no (k : Int) (hk : ¬ (1 ≤ k ∧ k ≤ 5)) (l Bs n₀ n₁ : Nat) (J Jx : List (Fin 10) → World → Prop)
    (hY : ∀ pre x W, J pre W → pre.length < 7 → YieldAt Fence.wide 4 Tryd.prog l (letV x) W fun e W' =>
      (e = .returned (.bool true) ∧ J (pre ++ [x]) W' ∧ Kx n₀ n₁ W W') ∨ (e = .returned (.bool false) ∧ Jx (pre ++ [x]) W'))
    (W : World) (hcs : W.cell? ⟨Bs, 0, none⟩ = some (.int .i64 k)) (h0 : J [] W) :
    CallsIn Fence.wide 5 Tryd.prog 51 #[.func (.yield l) #[] #[], .pointer (some ⟨Bs, 0, none⟩)] W fun e W' => (∃ v, e = .returned v) ∧
      ((∃ ys, ys = [] ∧ J ys W') ∨ (∃ pre, pre <+: [] ∧ Jx pre W')) := by
  have h1 : (k == 1) = false := by simp; omega
  have h2 : (k == 2) = false := by simp; omega
  have h3 : (k == 3) = false := by simp; omega
  have h4 : (k == 4) = false := by simp; omega
  have h5 : (k == 5) = false := by simp; omega
  clear hk
  refine callsIn_of_wp Tryd.func51 rfl trivial ?_ rfl
  simp only [Tryd.ntmps51, List.size_toArray, List.length_cons, List.length_nil, Nat.reduceAdd, Nat.reduceSub, Array.replicate_succ, Array.replicate_zero, List.push_toArray, List.append_toArray, List.nil_append, List.cons_append]
  gi_wp2
  gi_loopw [18] (fun n wr => n = .int .i64 0 ∧ J [] wr ∧ Kx n₀ n₁ W wr) (fun _ _ => 0)
  case atStart => exact ⟨rfl, h0, Kx.refl _ _ _⟩
  case round =>
    obtain ⟨rfl, hJs, hnx⟩ := hrel
    gi_wp2
    go_end0
    exact ⟨⟨_, rfl⟩, .inl ⟨_, rfl, hJs⟩⟩
theorem fields1_in (k : Int) (l Bs n₀ n₁ : Nat) (J Jx : List (Fin 10) → World → Prop)
    (hY : ∀ pre x W, J pre W → pre.length < 7 → YieldAt Fence.wide 4 Tryd.prog l (letV x) W fun e W' =>
      (e = .returned (.bool true) ∧ J (pre ++ [x]) W' ∧ Kx n₀ n₁ W W') ∨ (e = .returned (.bool false) ∧ Jx (pre ++ [x]) W'))
    (W : World) (hcs : W.cell? ⟨Bs, 0, none⟩ = some (.int .i64 k)) (h0 : J [] W) :
    CallsIn Fence.wide 5 Tryd.prog 51 #[.func (.yield l) #[] #[], .pointer (some ⟨Bs, 0, none⟩)] W fun e W' => (∃ v, e = .returned v) ∧
      ((∃ ys, ys = fieldI k ∧ J ys W') ∨ (∃ pre, pre <+: fieldI k ∧ Jx pre W')) := by
  by_cases hk : 1 ≤ k ∧ k ≤ 5
  · rcases (show k = 1 ∨ k = 2 ∨ k = 3 ∨ k = 4 ∨ k = 5 by omega) with rfl | rfl | rfl | rfl | rfl
    · exact fields1_1 l Bs n₀ n₁ J Jx hY W hcs h0
    · exact fields1_2 l Bs n₀ n₁ J Jx hY W hcs h0
    · exact fields1_3 l Bs n₀ n₁ J Jx hY W hcs h0
    · exact fields1_4 l Bs n₀ n₁ J Jx hY W hcs h0
    · exact fields1_5 l Bs n₀ n₁ J Jx hY W hcs h0
  · have e : fieldI k = [] := by
      unfold fieldI
      rw [if_neg (by omega), if_neg (by omega), if_neg (by omega), if_neg (by omega), if_neg (by omega)]
    rw [e]
    exact fields1_no k hk l Bs n₀ n₁ J Jx hY W hcs h0
theorem fields_in (k : Int) (w : World) :
    CallsIn Fence.wide 5 Tryd.prog 46 #[.int .i64 k] w fun e w' => e = .returned (.func (.func 51) #[] #[.pointer (some ⟨w.heap.size, 0, none⟩)]) ∧ w' = w.alloc (.cells #[.int .i64 k] 3) := by
  refine callsIn_of_wp Tryd.func46 rfl trivial ?_ rfl
  simp only [Tryd.ntmps46, List.size_toArray, List.length_cons, List.length_nil, Nat.reduceAdd, Nat.reduceSub, Array.replicate_succ, Array.replicate_zero, List.push_toArray, List.append_toArray, List.nil_append, List.cons_append]
  gi_wp2
  go_ret
  exact ⟨rfl, rfl⟩
theorem fields_stops (k : Int) (Bs n₀ n₁ : Nat) (w : World) (hBs : Bs < w.heap.size) (hc : w.cell? ⟨Bs, 0, none⟩ = some (.int .i64 k)) :
    SeqStopsK Fence.wide 5 Tryd.prog 51 #[.pointer (some ⟨Bs, 0, none⟩)] letV (Kx n₀ n₁) (fun ys => ys = fieldI k) (fun pre => pre <+: fieldI k) 7 w := fun l J Jx W hW _ _ hY h0 =>
  fields1_in k l Bs n₀ n₁ J Jx hY W ((hW.cell (p := ⟨Bs, 0, none⟩) hBs).trans hc) h0
end Go.Proofs.YtnnknnaimabehaaDoor
namespace Go.Proofs.YtnnknnaimabehaaDoor
open Go.RowKit
attribute [local go_sem] Oper.semAt_some
set_option linter.unusedVariables false
set_option linter.unusedSimpArgs false
set_option maxRecDepth 100000

section
variable {P : Program} (w : World)
theorem items_ints (d : Nat) (e : TypeId) (k k' : IntKind) (he : P.underlying e = some (.int k')) (xs ys : List Int) : ∀ is : List Nat, (∀ i ∈ is, i < xs.length ∧ i < ys.length) →
    (Op.eqItems (d + 1) e 1 (xs.map (Value.int k)).toArray (ys.map (Value.int k)).toArray is).run P w = .ok (is.all fun i => xs.getD i 0 == ys.getD i 0) w := by
  intro is
  induction is with
  | nil => intro _; simp [Op.eqItems]
  | cons i is ih =>
    intro h
    have h1 := (h i (by simp)).1
    have h2 := (h i (by simp)).2
    have px : (part e (xs.map (Value.int k)).toArray (i * 1)).run P w = .ok (.int k (xs.getD i 0)) w := by
      simp [part, isAgg, run_underlying he, List.getD, List.getElem?_eq_getElem h1]
    have py : (part e (ys.map (Value.int k)).toArray (i * 1)).run P w = .ok (.int k (ys.getD i 0)) w := by
      simp [part, isAgg, run_underlying he, List.getD, List.getElem?_eq_getElem h2]
    simp only [Op.eqItems, Sem.run_bind, px, py, Result.andThen_ok, run_equalIn_int w d e k k' _ _ he, List.all_cons]
    cases xs.getD i 0 == ys.getD i 0
    · simp
    · simpa using ih (fun j hj => h j (List.mem_cons_of_mem _ hj))
theorem all_getD (xs ys : List Int) (n : Nat) (hx : xs.length = n) (hy : ys.length = n) : ((List.range n).all fun i => xs.getD i 0 == ys.getD i 0) = decide (xs = ys) := by
  rw [Bool.eq_iff_iff]
  simp only [List.all_eq_true, List.mem_range, beq_iff_eq, decide_eq_true_eq]
  constructor
  · intro h
    apply List.ext_getElem (by omega)
    intro i h1 h2
    have := h i (by omega)
    simpa [List.getD, List.getElem?_eq_getElem h1, List.getElem?_eq_getElem h2] using this
  · rintro rfl i _
    rfl
theorem arr_ints (d : Nat) (t e : TypeId) (n : Nat) (i : TypeInfo) (k k' : IntKind) (hu : P.underlying t = some (.array n e)) (hi : P.info? e = some i) (hc : P.cellsOf e = 1) (he : P.underlying e = some (.int k')) (xs ys : List Int) (hx : xs.length = n) (hy : ys.length = n) :
    (Op.equalIn (d + 2) t (.agg (xs.map (Value.int k)).toArray) (.agg (ys.map (Value.int k)).toArray)).run P w = .ok (decide (xs = ys)) w := by
  rw [run_equalIn_array w (d + 1) _ _ hu hi, hc, items_ints w d e k k' he xs ys _ (fun j hj => by rw [List.mem_range] at hj; omega), all_getD xs ys n hx hy]
end
theorem cellsU8 : Tryd.prog.cellsOf 5 = 1 := by kernel_rfl
theorem linfoU8 : ∃ i, Tryd.prog.info? 5 = some i := by
  cases h : Tryd.prog.info? 5 with
  | some i => exact ⟨i, rfl⟩
  | none => exact absurd (show (Tryd.prog.info? 5).isSome = true by kernel_rfl) (by rw [h]; simp)
theorem hash_in (d : Nat) (xs ys : List Int) (hx : xs.length = 32) (hy : ys.length = 32) (w : World) :
    (Op.equalIn (d + 2) 61 (.agg (xs.map (Value.int .u8)).toArray) (.agg (ys.map (Value.int .u8)).toArray)).run Tryd.prog w = .ok (decide (xs = ys)) w := by
  obtain ⟨i, hi⟩ := linfoU8
  exact arr_ints w d _ 5 32 i .u8 .u8 Tryd.underlying61 hi cellsU8 Tryd.underlying5 xs ys hx hy
theorem hash_eq (xs ys : List Int) (hx : xs.length = 32) (hy : ys.length = 32) (w : World) :
    (binOp .eql 61 (.agg (xs.map (Value.int .u8)).toArray) (.agg (ys.map (Value.int .u8)).toArray)).run Tryd.prog w = .ok (.bool (decide (xs = ys))) w := by
  rw [run_eql_struct, hash_in 9998 xs ys hx hy]; rfl
theorem hash_guard (w : World) (x y : Operand) (xs ys : Array Value) : (eqGuard .eql 61 x y (.agg xs) (.agg ys)).run Tryd.prog w = .ok () w := run_eqGuard_agg w .eql 61 x y xs ys (by kernel_rfl)
theorem ent_guard (w : World) (op : BinOp) (x y : Operand) (xs ys : Array Value) : (eqGuard op 63 x y (.agg xs) (.agg ys)).run Tryd.prog w = .ok () w := run_eqGuard_agg w op 63 x y xs ys (by kernel_rfl)
theorem part_hash (w : World) (e : Ent) (he : e.hash.length = 32) : (part 61 e.arr 10).run Tryd.prog w = .ok (.agg (e.hash.map (Value.int .u8)).toArray) w := by
  have hs : (sizeOf 61).run Tryd.prog w = .ok 32 w := Tryd.sizeOf61 w
  have hx : e.arr.extract 10 (10 + 32) = (e.hash.map (Value.int .u8)).toArray := by
    simp [Ent.arr, Ent.cells]
    exact List.take_of_length_le (by simp [he])
  simp [part, isAgg, run_underlying Tryd.underlying61, hs, hx]
theorem ent_in (w : World) (n : Nat) (a b : Ent) (ha : a.hash.length = 32) (hb : b.hash.length = 32) : (Op.equalIn (n + 3) 63 (.agg a.arr) (.agg b.arr)).run Tryd.prog w = .ok (decide (a = b)) w := by
  rw [run_equalIn_struct w _ _ _ _ (by kernel_rfl) (by kernel_rfl)]
  have ei := fun (d : Nat) (x y : Int) (w : World) => run_equalIn_int (P := Tryd.prog) w d 3 .i64 .i64 x y Tryd.underlying3
  have ej := fun (d : Nat) (x y : Int) (w : World) => run_equalIn_int (P := Tryd.prog) w d 2 .i64 .i64 x y Tryd.underlying2
  have eu := fun (d : Nat) (x y : Int) (w : World) => run_equalIn_int (P := Tryd.prog) w d 59 .u32 .u32 x y Tryd.underlying59
  have ev := fun (d : Nat) (x y : Int) (w : World) => run_equalIn_int (P := Tryd.prog) w d 44 .u64 .u64 x y Tryd.underlying44
  have pa := fun (w : World) => part_hash w a ha
  have pb := fun (w : World) => part_hash w b hb
  have hh := fun (w : World) => hash_in n a.hash b.hash ha hb w
  have g0 : ∀ e : Ent, e.arr[0]? = some (.int .i64 e.kind) := fun e => by simp [Ent.arr, Ent.cells]
  have g1 : ∀ e : Ent, e.arr[1]? = some (.int .i64 e.meter) := fun e => by simp [Ent.arr, Ent.cells]
  have g2 : ∀ e : Ent, e.arr[2]? = some (.int .i64 e.start) := fun e => by simp [Ent.arr, Ent.cells]
  have g3 : ∀ e : Ent, e.arr[3]? = some (.int .i64 e.energy) := fun e => by simp [Ent.arr, Ent.cells]
  have g4 : ∀ e : Ent, e.arr[4]? = some (.int .i64 e.band) := fun e => by simp [Ent.arr, Ent.cells]
  have g5 : ∀ e : Ent, e.arr[5]? = some (.int .i64 e.price) := fun e => by simp [Ent.arr, Ent.cells]
  have g6 : ∀ e : Ent, e.arr[6]? = some (.int .i64 e.cost) := fun e => by simp [Ent.arr, Ent.cells]
  have g7 : ∀ e : Ent, e.arr[7]? = some (.int .i64 e.flags) := fun e => by simp [Ent.arr, Ent.cells]
  have g8 : ∀ e : Ent, e.arr[8]? = some (.int .u32 e.count) := fun e => by simp [Ent.arr, Ent.cells]
  have g9 : ∀ e : Ent, e.arr[9]? = some (.int .u64 e.seq) := fun e => by simp [Ent.arr, Ent.cells]
  have fin : decide (a = b) = (a.kind == b.kind && (a.meter == b.meter && (a.start == b.start && (a.energy == b.energy && (a.band == b.band && (a.price == b.price && (a.cost == b.cost && (a.flags == b.flags && (a.count == b.count && (a.seq == b.seq && decide (a.hash = b.hash))))))))))) := by
    rw [Bool.eq_iff_iff]
    cases a; cases b
    simp
  rw [fin]
  have pI : ∀ (e : Ent) (i : Nat) (v : Value) (w : World), e.arr[i]? = some v → (part 3 e.arr i).run Tryd.prog w = .ok v w := fun e i v w h => by simp [part, isAgg, run_underlying Tryd.underlying3, h]
  have pJ : ∀ (e : Ent) (i : Nat) (v : Value) (w : World), e.arr[i]? = some v → (part 2 e.arr i).run Tryd.prog w = .ok v w := fun e i v w h => by simp [part, isAgg, run_underlying Tryd.underlying2, h]
  have pU : ∀ (e : Ent) (i : Nat) (v : Value) (w : World), e.arr[i]? = some v → (part 59 e.arr i).run Tryd.prog w = .ok v w := fun e i v w h => by simp [part, isAgg, run_underlying Tryd.underlying59, h]
  have pV : ∀ (e : Ent) (i : Nat) (v : Value) (w : World), e.arr[i]? = some v → (part 44 e.arr i).run Tryd.prog w = .ok v w := fun e i v w h => by simp [part, isAgg, run_underlying Tryd.underlying44, h]
  have x0 := fun w => pI a 0 _ w (g0 a)
  have y0 := fun w => pI b 0 _ w (g0 b)
  have x1 := fun w => pI a 1 _ w (g1 a)
  have y1 := fun w => pI b 1 _ w (g1 b)
  have x2 := fun w => pJ a 2 _ w (g2 a)
  have y2 := fun w => pJ b 2 _ w (g2 b)
  have x3 := fun w => pJ a 3 _ w (g3 a)
  have y3 := fun w => pJ b 3 _ w (g3 b)
  have x4 := fun w => pI a 4 _ w (g4 a)
  have y4 := fun w => pI b 4 _ w (g4 b)
  have x5 := fun w => pJ a 5 _ w (g5 a)
  have y5 := fun w => pJ b 5 _ w (g5 b)
  have x6 := fun w => pJ a 6 _ w (g6 a)
  have y6 := fun w => pJ b 6 _ w (g6 b)
  have x7 := fun w => pI a 7 _ w (g7 a)
  have y7 := fun w => pI b 7 _ w (g7 b)
  have x8 := fun w => pU a 8 _ w (g8 a)
  have y8 := fun w => pU b 8 _ w (g8 b)
  have x9 := fun w => pV a 9 _ w (g9 a)
  have y9 := fun w => pV b 9 _ w (g9 b)
  clear fin pI pJ pU pV
  clear g0 g1 g2 g3 g4 g5 g6 g7 g8 g9
  simp only [Program.fieldsOf, Tryd.underlying63]
  generalize a.arr = A at *
  generalize b.arr = B at *
  generalize hr0 : (a.kind == b.kind) = r0 at *
  generalize hr1 : (a.meter == b.meter) = r1 at *
  generalize hr2 : (a.start == b.start) = r2 at *
  generalize hr3 : (a.energy == b.energy) = r3 at *
  generalize hr4 : (a.band == b.band) = r4 at *
  generalize hr5 : (a.price == b.price) = r5 at *
  generalize hr6 : (a.cost == b.cost) = r6 at *
  generalize hr7 : (a.flags == b.flags) = r7 at *
  generalize hr8 : (a.count == b.count) = r8 at *
  generalize hr9 : (a.seq == b.seq) = r9 at *
  cases r0
  · simp [Op.eqFields, Sem.run_bind, pa, pb, hh, ei, ej, eu, ev, x0, y0, hr0, x1, y1, hr1, x2, y2, hr2, x3, y3, hr3, x4, y4, hr4, x5, y5, hr5, x6, y6, hr6, x7, y7, hr7, x8, y8, hr8, x9, y9, hr9]
  cases r1
  · simp [Op.eqFields, Sem.run_bind, pa, pb, hh, ei, ej, eu, ev, x0, y0, hr0, x1, y1, hr1, x2, y2, hr2, x3, y3, hr3, x4, y4, hr4, x5, y5, hr5, x6, y6, hr6, x7, y7, hr7, x8, y8, hr8, x9, y9, hr9]
  cases r2
  · simp [Op.eqFields, Sem.run_bind, pa, pb, hh, ei, ej, eu, ev, x0, y0, hr0, x1, y1, hr1, x2, y2, hr2, x3, y3, hr3, x4, y4, hr4, x5, y5, hr5, x6, y6, hr6, x7, y7, hr7, x8, y8, hr8, x9, y9, hr9]
  cases r3
  · simp [Op.eqFields, Sem.run_bind, pa, pb, hh, ei, ej, eu, ev, x0, y0, hr0, x1, y1, hr1, x2, y2, hr2, x3, y3, hr3, x4, y4, hr4, x5, y5, hr5, x6, y6, hr6, x7, y7, hr7, x8, y8, hr8, x9, y9, hr9]
  cases r4
  · simp [Op.eqFields, Sem.run_bind, pa, pb, hh, ei, ej, eu, ev, x0, y0, hr0, x1, y1, hr1, x2, y2, hr2, x3, y3, hr3, x4, y4, hr4, x5, y5, hr5, x6, y6, hr6, x7, y7, hr7, x8, y8, hr8, x9, y9, hr9]
  cases r5
  · simp [Op.eqFields, Sem.run_bind, pa, pb, hh, ei, ej, eu, ev, x0, y0, hr0, x1, y1, hr1, x2, y2, hr2, x3, y3, hr3, x4, y4, hr4, x5, y5, hr5, x6, y6, hr6, x7, y7, hr7, x8, y8, hr8, x9, y9, hr9]
  cases r6
  · simp [Op.eqFields, Sem.run_bind, pa, pb, hh, ei, ej, eu, ev, x0, y0, hr0, x1, y1, hr1, x2, y2, hr2, x3, y3, hr3, x4, y4, hr4, x5, y5, hr5, x6, y6, hr6, x7, y7, hr7, x8, y8, hr8, x9, y9, hr9]
  cases r7
  · simp [Op.eqFields, Sem.run_bind, pa, pb, hh, ei, ej, eu, ev, x0, y0, hr0, x1, y1, hr1, x2, y2, hr2, x3, y3, hr3, x4, y4, hr4, x5, y5, hr5, x6, y6, hr6, x7, y7, hr7, x8, y8, hr8, x9, y9, hr9]
  cases r8
  · simp [Op.eqFields, Sem.run_bind, pa, pb, hh, ei, ej, eu, ev, x0, y0, hr0, x1, y1, hr1, x2, y2, hr2, x3, y3, hr3, x4, y4, hr4, x5, y5, hr5, x6, y6, hr6, x7, y7, hr7, x8, y8, hr8, x9, y9, hr9]
  cases r9
  · simp [Op.eqFields, Sem.run_bind, pa, pb, hh, ei, ej, eu, ev, x0, y0, hr0, x1, y1, hr1, x2, y2, hr2, x3, y3, hr3, x4, y4, hr4, x5, y5, hr5, x6, y6, hr6, x7, y7, hr7, x8, y8, hr8, x9, y9, hr9]
  cases hd : decide (a.hash = b.hash) <;> simp [Op.eqFields, Sem.run_bind, pa, pb, hh, ei, ej, eu, ev, x0, y0, hr0, x1, y1, hr1, x2, y2, hr2, x3, y3, hr3, x4, y4, hr4, x5, y5, hr5, x6, y6, hr6, x7, y7, hr7, x8, y8, hr8, x9, y9, hr9, hd]
end Go.Proofs.YtnnknnaimabehaaDoor
namespace Go.Proofs.YtnnknnaimabehaaDoor
open Go.RowKit Go.Shelf
attribute [local go_sem] Oper.semAt_some
set_option linter.unusedVariables false
set_option linter.unusedSimpArgs false
set_option maxRecDepth 100000

theorem none_arr (k : Int) (X : Array Value) (h : X = (Ent.none k).arr) : X = #[.int .i64 k, .int .i64 0, .int .i64 0, .int .i64 0, .int .i64 0, .int .i64 0, .int .i64 0, .int .i64 0, .int .u32 0, .int .u64 0] ++ Array.replicate 32 (.int .u8 0) := by
  subst h
  simp [Ent.none, Ent.arr, Ent.cells]
theorem name_ne (k : Int) : (!(nameS k).toList.isEmpty) = decide (1 ≤ k ∧ k ≤ 5) := by
  by_cases h : 0 ≤ k ∧ k < 6
  · rcases (show k = 0 ∨ k = 1 ∨ k = 2 ∨ k = 3 ∨ k = 4 ∨ k = 5 by omega) with rfl | rfl | rfl | rfl | rfl | rfl <;> simp [nameS, wordS, ByteArray.toList_eq]
  · have e : nameS k = ⟨#[]⟩ := by unfold nameS; rw [if_neg h]
    rw [e]
    have : ¬ (1 ≤ k ∧ k ≤ 5) := by omega
    simp [this, ByteArray.toList_eq]
/-- The frame in a round. -/
def frameC (k : Int) (X Y : Array Value) (b : Bool) (g : Nat) (f : Int) : Act := { tmps := #[.agg X, .pointer (some ⟨g, 0, none⟩), .int .i64 0, .pointer (some ⟨g + 1, 0, none⟩), .pointer (some ⟨g + 2, 0, none⟩), .int .u8 f, undef, undef, undef, undef, .pointer (some ⟨g, 0, none⟩), .int .i64 k, .agg Y, .pointer (some ⟨g, 0, none⟩), .int .i64 k, .string (nameS k), .bool b, .pointer (some ⟨g, 0, none⟩), .int .i64 k, .func (.func 51) #[] #[.pointer (some ⟨g + 3, 0, none⟩)], .int .u8 f,
  undef, undef, undef, undef, undef, undef, undef, undef, undef, undef, undef, undef, undef, undef, undef, undef, undef, undef, undef, undef, undef, undef, undef, undef, undef, undef, undef, undef, undef, undef, undef, undef, undef, undef, undef, undef, undef], defers := [] }
/-- What stands at a round's head, and where the loop was left. -/
def ChkI (w : World) (x : Ent) (pre : List (Fin 10)) (W : World) : Prop :=
  Held W w.heap.size 63 x.arr ∧ Held W (w.heap.size + 1) 63 (foldE x (pre.map letN)).1.arr ∧ Held W (w.heap.size + 2) 4 #[.bool (foldE x (pre.map letN)).2] ∧ Below w.heap.size w W
def ChkX (w : World) (x : Ent) (c : Code) (pre : List (Fin 10)) (W : World) : Prop :=
  Held W w.heap.size 63 x.arr ∧ (∃ y : Ent, Held W (w.heap.size + 1) 63 y.arr ∧ y.hash.length = 32) ∧ Held W (w.heap.size + 2) 4 #[.bool false] ∧ Below w.heap.size w W ∧ c = .exit 0 ∧ (foldE x (pre.map letN)).2 = false
theorem ChkI.own {w : World} {x : Ent} (B : Nat) (hB : w.heap.size ≤ B) : OwnFrom B (ChkI w x) := by
  refine OwnFrom.and (fun p X Y row hs hg hr => held_ownFrom () X Y row hs hg hr) (OwnFrom.and (fun p X Y row hs hg hr => held_ownFrom () X Y row hs hg hr) (OwnFrom.and (fun p X Y row hs hg hr => held_ownFrom () X Y row hs hg hr) (ownFrom_below (Nat.le_refl _) hB)))
theorem ChkX.own {w : World} {x : Ent} (c : Code) (B : Nat) (hB : w.heap.size ≤ B) : OwnFrom B (ChkX w x c) := by
  refine OwnFrom.and (fun p X Y row hs hg hr => held_ownFrom () X Y row hs hg hr) (OwnFrom.and (fun p X Y row hs hg hr => ?_) (OwnFrom.and (fun p X Y row hs hg hr => held_ownFrom () X Y row hs hg hr) (OwnFrom.and (ownFrom_below (Nat.le_refl _) hB) (fun p X Y row hs hg hr => hs))))
  obtain ⟨y, hy, hl⟩ := hs
  exact ⟨y, held_ownFrom () X Y row hy hg hr, hl⟩
theorem step_len (x : Ent) (hx : x.hash.length = 32) (s : Ent × Bool) (f : Int) (h : s.1.hash.length = 32) : (stepE x s f).1.hash.length = 32 := by
  unfold stepE
  split
  · exact hx
  · unfold setE
    repeat' split
    all_goals exact h
theorem foldl_len (x : Ent) (hx : x.hash.length = 32) : ∀ (l : List Int) (s : Ent × Bool), s.1.hash.length = 32 → (l.foldl (stepE x) s).1.hash.length = 32
  | [], _, h => h
  | f :: l, s, h => foldl_len x hx l _ (step_len x hx s f h)
theorem fold_len (x : Ent) (hx : x.hash.length = 32) (l : List Int) : (foldE x l).1.hash.length = 32 := foldl_len x hx l _ rfl
theorem foldl_no (x : Ent) : ∀ (l : List Int) (s : Ent × Bool), s.2 = false → (l.foldl (stepE x) s).2 = false
  | [], _, h => h
  | f :: l, s, h => foldl_no x l _ (by unfold stepE; split <;> simp [h])
theorem fold_no (x : Ent) (l m : List Int) (h : (foldE x l).2 = false) : (foldE x (l ++ m)).2 = false := by
  unfold foldE at h ⊢
  rw [List.foldl_append]
  exact foldl_no x m _ h
theorem fold_snoc (x : Ent) (l : List Int) (f : Int) : foldE x (l ++ [f]) = stepE x (foldE x l) f := by
  unfold foldE
  rw [List.foldl_append]; rfl
theorem letN_in (z : Fin 10) (h : z ≠ 9) : letN z ∈ lettersN := by revert z; decide
theorem letN_ne (z : Fin 10) (h : z ≠ 9) : (letN z == 104) = false := by revert z; decide
theorem But.keeps {g B : Nat} {W W' : World} (h : But g W W') (hg : g < B) : KeepsFrom B W W' := ⟨h.size, fun k o hB hk _ => (h.2 k (by omega) (Array.getElem?_eq_some_iff.1 hk).1).trans hk⟩
theorem But.kx {g n : Nat} {W W' : World} (h : But g W W') (hg : g < n) (hn : n ≤ W.heap.size) : Kx g n W W' := ⟨h.below (Nat.le_refl _) (by omega), fun k h1 h2 => h.2 k h1 (by omega)⟩
theorem hash_range (e : Ent) : e.cells = [.int .i64 e.kind, .int .i64 e.meter, .int .i64 e.start, .int .i64 e.energy, .int .i64 e.band, .int .i64 e.price, .int .i64 e.cost, .int .i64 e.flags, .int .u32 e.count, .int .u64 e.seq] ++ (e.hash.map (Value.int .u8) ++ []) := by
  simp [Ent.cells]
theorem info_hash : (Tryd.prog.info? 61).map (·.size) = some 32 := by kernel_rfl
set_option maxHeartbeats 4000000 in
theorem check_yes (x : Ent) (hx : x.ok) (w : World) (hT : WordsT w) : CallsIn Fence.wide 6 Tryd.prog 41 #[.agg x.arr] w fun e w' => e = .returned (.int .i64 (if okE x then 0 else 150)) ∧ Below w.heap.size w w' := by
  have hD : Held (w.alloc (.cells x.arr 63)) w.heap.size 63 x.arr := Held.new w _ _
  obtain ⟨c0, c1, c2, c3, c4, c5, c6, c7, c8, c9⟩ := ent_cells hD
  have hlen := hx.2.2.2.2.2.2.2.2.2.2.1
  have HX := Lib.hid hx
  have HT := Lib.hid hT
  clear hx hT c1 c2 c3 c4 c5 c6 c7 c8 c9
  obtain ⟨X, hX⟩ : ∃ X, x.arr = X := ⟨_, rfl⟩
  rw [hX] at hD c0 ⊢
  refine callsIn_of_wp_marks Tryd.func41 rfl trivial ?_ rfl
  simp only [Tryd.ntmps41, List.size_toArray, List.length_cons, List.length_nil, Nat.reduceAdd, Nat.reduceSub, Array.replicate_succ, Array.replicate_zero, List.push_toArray, List.append_toArray, List.nil_append, List.cons_append]
  gi_wp2
  refine wpIn_scope ?_
  refine wpIn_wide.2 ?_
  refine wp_seq ?_
  refine wp_region_lit ?_
  refine wpList_plain rfl fun K hK => ?_
  go_simp
  refine hK _ _ ?_
  refine wpList_plain rfl fun K2 hK2 => ?_
  go_simp
  refine hK2 _ _ ?_
  clear hK hK2
  refine wpList_plain rfl fun K hK => ?_
  refine wp_build_of _ _ rfl #[(0, .int .i64 x.kind)] (by simp [Act.eval, Act.put]) _ (build_new _ x.kind) ?_
  refine hK _ _ ?_
  clear hK
  refine wpList_plain rfl fun K hK => ?_
  refine wp_alloc_of _ rfl _ (alloc_new _) ?_
  refine hK _ _ ?_
  clear hK
  refine wpList_plain rfl fun K hK => ?_
  refine wp_store_of _ _ _ rfl _ _ rfl rfl (store_new _ (Ent.none x.kind) rfl) ?_
  refine hK _ _ ?_
  refine wpList_nil ?_
  clear hK
  obtain ⟨Y, hYe⟩ : ∃ Y, (Ent.none x.kind).arr = Y := ⟨_, rfl⟩
  obtain ⟨w1, hw1⟩ : ∃ W, (w.alloc (.cells X 63)).alloc (.cells Y 63) = W := ⟨_, rfl⟩
  have hX1 : Held w1 w.heap.size 63 X := by rw [← hw1]; exact hD.alloc _
  have hY1 : Held w1 (w.heap.size + 1) 63 Y := by rw [← hw1]; have := Held.new (w.alloc (.cells X 63)) 63 Y; rw [World.size_alloc] at this; exact this
  have hb1 : Below w.heap.size w w1 := by rw [← hw1]; exact ((Below.refl _ _).alloc (Nat.le_refl _) _).alloc (by simp) _
  have hz1 : w1.heap.size = w.heap.size + 2 := by rw [← hw1]; simp
  have d0 : w1.cell? ⟨w.heap.size, 0, none⟩ = some (.int .i64 x.kind) := by rw [← hw1]; exact (Held.alloc hD _).cell 0 |>.trans ((hD.cell 0).symm.trans c0)
  have HY := Lib.hid hYe
  have HXE := Lib.hid hX
  have HN := Lib.hid (name_own x.kind w1 (HT.out.up hb1))
  rw [hYe, hw1]
  simp only [World.size_alloc, Act.put]
  clear hw1 hD c0 hX hYe
  have HZ := Lib.hid hz1
  clear hz1
  go_wp2_with (go_at_call 45; (with_reducible refine HN.out.mono ?_); rintro e w' ⟨rfl, rfl⟩)
  rw [name_ne]
  obtain ⟨bk, hbk⟩ : ∃ b, decide (1 ≤ x.kind ∧ x.kind ≤ 5) = b := ⟨_, rfl⟩
  rw [hbk]
  obtain ⟨w2, hw2⟩ : ∃ W, w'.alloc (.cells #[.bool bk] 4) = W := ⟨_, rfl⟩
  have hX2 : Held w2 w.heap.size 63 X := by rw [← hw2]; exact hX1.alloc _
  have hY2 : Held w2 (w.heap.size + 1) 63 Y := by rw [← hw2]; exact hY1.alloc _
  have hF2 : Held w2 (w.heap.size + 2) 4 #[.bool bk] := by rw [← hw2, ← HZ.out]; exact Held.new _ _ _
  have hb2 : Below w.heap.size w w2 := by rw [← hw2]; exact hb1.alloc hb1.size _
  have hz2 : w2.heap.size = w.heap.size + 3 := by rw [← hw2, World.size_alloc, HZ.out]
  have e0 : w2.cell? ⟨w.heap.size, 0, none⟩ = some (.int .i64 x.kind) := by rw [← hw2]; exact ((hX1.alloc _).cell 0).trans ((hX1.cell 0).symm.trans d0)
  have HZ0 := HZ
  rw [hw2, HZ.out]
  clear hw2 hX1 hY1 hb1 d0 HN HZ HZ0
  have HZ := Lib.hid hz2
  clear hz2
  refine (wpIn_wide (n := 6)).1 ?_
  refine wpIn_label ?_
  go_wp2_with (go_at_call 46; refine ((callsIn_wide (n := 5)).1 (fields_in x.kind _)).mono ?_; rintro e w' ⟨rfl, rfl⟩)
  rw [HZ.out]
  obtain ⟨w3, hw3⟩ : ∃ W, w2.alloc (.cells #[.int .i64 x.kind] 3) = W := ⟨_, rfl⟩
  have hX3 : Held w3 w.heap.size 63 X := by rw [← hw3]; exact hX2.alloc _
  have hY3 : Held w3 (w.heap.size + 1) 63 Y := by rw [← hw3]; exact hY2.alloc _
  have hF3 : Held w3 (w.heap.size + 2) 4 #[.bool bk] := by rw [← hw3]; exact hF2.alloc _
  have hK3 : Held w3 (w.heap.size + 3) 3 #[.int .i64 x.kind] := by rw [← hw3, ← HZ.out]; exact Held.new _ _ _
  have hb3 : Below w.heap.size w w3 := by rw [← hw3]; exact hb2.alloc hb2.size _
  have hz3 : w3.heap.size = w.heap.size + 4 := by rw [← hw3, World.size_alloc, HZ.out]
  rw [hw3]
  clear hw3 hX2 hY2 hF2 hb2 e0 HZ
  have HZ := Lib.hid hz3
  have HI : Hid (ChkI w x [] w3) := Lib.hid ⟨by rw [HXE.out]; exact hX3, by rw [List.map_nil]; show Held _ _ _ (Ent.none x.kind).arr; rw [HY.out]; exact hY3, by rw [List.map_nil]; show Held _ _ _ #[.bool (decide _)]; rw [hbk]; exact hF3, hb3⟩
  clear hX3 hY3 hF3
  refine wpIn_wide.1 (wpIn_rangeFunc_ownH (n := 6) rfl (by omega) (gf := 51) (lb := #[.pointer (some ⟨w.heap.size + 3, 0, none⟩)]) rfl trivial (enters_of Tryd.func51 (by kernel_rfl) rfl)
    (fields_stops x.kind (w.heap.size + 3) (w.heap.size + 1) (w.heap.size + 4) w3 (by omega) (hK3.cell 0)) Kx.trans (fun W l o o' hl ho h1 h2 => Kx.of_below (belowK_b (w := w3) (by omega) W l o o' hl ho h1 h2) (by omega)) (Below.refl _ _) (fun _ => rfl)
    (ChkI w x) (ChkX w x) ?own ?ownx HI.out (fun z a' _ => a' = frameC x.kind X Y bk w.heap.size (letN z)) (fun _ _ _ X Y row hs _ _ => hs) ?assign ?body ?done ?stop)
  case own => exact ChkI.own _ (by omega)
  case ownx => exact fun c => ChkX.own c _ (by omega)
  case assign =>
    rintro l pre z W K hI hK
    unfold letV
    gi_wp2
    exact hK _ _ ((KeepsOthers.refl _).from _) (Kx.refl _ _ _) hI rfl
  case body =>
    rintro l pre z a' W hl ⟨r, hr⟩ ⟨hx, hy, hf, hB⟩ rfl hlt
    have hlW : l < W.heap.size := (Array.getElem?_eq_some_iff.1 hr).1
    unfold frameC
    have hst : foldE x ((pre ++ [z]).map letN) = stepE x (foldE x (pre.map letN)) (letN z) := by rw [List.map_append]; exact fold_snoc _ _ _
    have hyl := fold_len x hlen (pre.map letN)
    obtain ⟨⟨y, b⟩, hyb⟩ : ∃ s, foldE x (pre.map letN) = s := ⟨_, rfl⟩
    rw [hyb] at hst hyl hy hf
    dsimp only at hyl hy hf
    have hzw : w3.heap.size = w.heap.size + 4 := HZ.out
    by_cases hz : z = 9
    · subst hz
      have hl9 : letN 9 = 104 := rfl
      rw [hl9] at hst ⊢
      have hs9 : stepE x (y, b) 104 = ({ y with hash := x.hash }, b) := rfl
      rw [hs9] at hst
      have HST := Lib.hid hst
      have hx' := hx
      have hy' := hy
      unfold Ent.arr at hx' hy'
      rw [hash_range] at hx' hy'
      have rx := held_range hx'
      have ht := held_there (o := 10) (n := 32) hy (by rw [Ent.arr_size y hyl]; exact Nat.le_refl _)
      have hs := held_setCells (x.hash.map (Value.int .u8)) (y.hash.map (Value.int .u8)) [.int .i64 y.kind, .int .i64 y.meter, .int .i64 y.start, .int .i64 y.energy, .int .i64 y.band, .int .i64 y.price, .int .i64 y.cost, .int .i64 y.flags, .int .u32 y.count, .int .u64 y.seq] [] (by simp [hyl, hlen]) hy'
      have e2 : [.int .i64 y.kind, .int .i64 y.meter, .int .i64 y.start, .int .i64 y.energy, .int .i64 y.band, .int .i64 y.price, .int .i64 y.cost, .int .i64 y.flags, .int .u32 y.count, .int .u64 y.seq] ++ (x.hash.map (Value.int .u8) ++ []) = ({ y with hash := x.hash } : Ent).cells := (hash_range { y with hash := x.hash }).symm
      rw [e2] at hs
      change W.rangeAt w.heap.size 10 _ at rx
      change Held (W.setCells (w.heap.size + 1) 10 _) _ _ _ at hs
      have hb2 : But (w.heap.size + 1) W (W.setCells (w.heap.size + 1) 10 (x.hash.map (Value.int .u8))) := But.sets _ _ (But.refl _ _)
      have hBs := below_setCells (x.hash.map (Value.int .u8)) 10 hB (show w.heap.size ≤ w.heap.size + 1 by omega)
      obtain ⟨LH, hLH⟩ : ∃ L, x.hash.map (Value.int .u8) = L := ⟨_, rfl⟩
      have hLl : LH.length = 32 := by rw [← hLH]; simp [hlen]
      have h1c : LH.toArray.all (·.oneCell') = true := by rw [← hLH]; simp [Value.oneCell']
      rw [hLH] at rx hs hb2 hBs
      have RX := Lib.hid rx
      have HT2 := Lib.hid (show W.there (w.heap.size + 1) 10 LH.toArray.size by simpa [hLl] using ht)
      have HI2 := Lib.hid (show (Tryd.prog.info? 61).map (·.size) = some LH.toArray.size by rw [info_hash]; simp [hLl])
      have HI1 := Lib.hid (show (Tryd.prog.info? 61).map (·.size) = some LH.length by rw [info_hash, hLl])
      have H1 := Lib.hid h1c
      have FX := Lib.hid (show Held (W.setCells (w.heap.size + 1) 10 LH) w.heap.size 63 x.arr from hb2.held (by omega) hx)
      have FF := Lib.hid (show Held (W.setCells (w.heap.size + 1) 10 LH) (w.heap.size + 2) 4 #[.bool b] from hb2.held (by omega) hf)
      have FY := Lib.hid hs
      have HK := Lib.hid (hb2.keeps (B := w3.heap.size) (by omega))
      have HKx := Lib.hid (hb2.kx (n := w.heap.size + 4) (by omega) (by omega))
      have HBs := Lib.hid hBs
      clear hyb hl9 hs9 hst hx' hy' rx ht hs e2 hb2 hBs hLH h1c hLl hx hy hf
      gi_wp2_with (first
        | (with_reducible refine wpListIn_load_at (dst := some 24) 61 (.tmp 23) w.heap.size 10 LH _ (by kernel_rfl) (by kernel_rfl) RX.out Tryd.underlying61 (by kernel_rfl) HI1.out ?_; simp only [Act.put, List.setIfInBounds_toArray, List.set_cons_succ, List.set_cons_zero])
        | (with_reducible refine wpListIn_store_at 61 (.tmp 25) (.tmp 24) (w.heap.size + 1) 10 LH.toArray (by kernel_rfl) (by kernel_rfl) (by kernel_rfl) HT2.out HI2.out H1.out ?_; simp only [Act.put, List.setIfInBounds_toArray, List.set_cons_succ, List.set_cons_zero]))
      refine ⟨HK.out, HKx.out, FX.out, ?_, ?_, HBs.out⟩
      · rw [HST.out]; exact FY.out
      · rw [HST.out]; exact FF.out
    · have hfl := letN_in z hz
      have hfn := letN_ne z hz
      obtain ⟨f, hfe⟩ : ∃ f, letN z = f := ⟨_, rfl⟩
      rw [hfe] at hst hfl hfn ⊢
      have hne : f ≠ 104 := by rintro rfl; simp at hfn
      have hs2 : stepE x (y, b) f = (setE y f (getE x f), b && fitE x f) := by unfold stepE; rw [if_neg hne]
      rw [hs2] at hst
      have hsl : (setE y f (getE x f)).hash.length = 32 := by have := step_len x hlen (y, b) f hyl; rw [hs2] at this; exact this
      obtain ⟨n, hn⟩ : ∃ n, getE x f = n := ⟨_, rfl⟩
      obtain ⟨lo, hlo⟩ : ∃ k, (boundE x.kind f).1 = k := ⟨_, rfl⟩
      obtain ⟨hi, hhi⟩ : ∃ k, (boundE x.kind f).2.1 = k := ⟨_, rfl⟩
      obtain ⟨is, his⟩ : ∃ k, (boundE x.kind f).2.2 = k := ⟨_, rfl⟩
      have hfit : fitE x f = (!is || (decide (lo ≤ n) && decide (n ≤ hi))) := by unfold fitE; rw [hlo, hhi, his, hn]
      rw [hfit, hn] at hst
      rw [hn] at hsl
      have hg := get_own x HX.out f hfl W
      rw [hn] at hg
      have HB2 := Lib.hid (fun V => by have := bounds_own x.kind f hfl V; rw [hlo, hhi, his] at this; exact this)
      have HG : Hid (Calls Tryd.prog 47 #[.agg x.cells.toArray, .int .u8 f] W fun e w' => e = .returned (.int .i64 n) ∧ Below W.heap.size W w') := Lib.hid (hg.mono fun e w' h => ⟨h.1, by rw [h.2]; exact (Below.refl _ _).alloc (Nat.le_refl _) _⟩)
      have hBW := hB.size
      have hsz := hf.lt
      have HS : Hid (∀ V, Below W.heap.size W V → Calls Tryd.prog 48 #[.pointer (some ⟨w.heap.size + 1, 0, none⟩), .int .u8 f, .int .i64 n] V fun e w' => (∃ v, e = .returned v) ∧ But (w.heap.size + 1) W w' ∧ Held w' (w.heap.size + 1) 63 (setE y f n).arr ∧ w'.cell? ⟨w.heap.size, 0, none⟩ = some (.int .i64 x.kind)) :=
        Lib.hid (fun V hV => (set_own y f n hfl V (w.heap.size + 1) _ (hy.below hV hy.lt)).mono fun e w' h => by
          obtain ⟨h1, h2, h3⟩ := h
          have hbt : But (w.heap.size + 1) W w' := by rw [h2]; exact (But.of_below hV).set _ _
          have := ((hbt.held (show w.heap.size ≠ w.heap.size + 1 by omega) hx).cell 0)
          refine ⟨h1, hbt, h3, this.trans ?_⟩
          simp [Ent.arr, Ent.cells])
      have hx2 := Lib.hid hx
      have hf2 := Lib.hid hf
      have RX := Lib.hid (ent_range hx)
      have IX : Hid ((Tryd.prog.info? 63).map (·.size) = some x.cells.length) := Lib.hid (by rw [ent_size x hlen]; simp [Ent.arr])
      obtain ⟨LX, hLX⟩ : ∃ L, x.cells = L := ⟨_, rfl⟩
      rw [hLX] at RX IX HG
      have HST := Lib.hid hst
      have HSL := Lib.hid hsl
      have hszW : w3.heap.size ≤ W.heap.size := by omega
      have k1F : Fence.wide.fn 47 := trivial
      have k2F : Fence.wide.fn 48 := trivial
      have k3F : Fence.wide.fn 49 := trivial
      clear hyb hs2 hn hlo hhi his hfit hst hsl hg hLX hx hy hf hfe hne hfl HI HY hbk
      cases is
      · gi_wp2_with (first
        | (with_reducible refine wpListIn_load_at (dst := some 26) 63 (.tmp 1) w.heap.size 0 LX _ (by kernel_rfl) (by kernel_rfl) RX.out Tryd.underlying63 (by kernel_rfl) IX.out ?_; simp only [Act.put, List.setIfInBounds_toArray, List.set_cons_succ, List.set_cons_zero])
        | (gi_at_call 47; refine (CallsIn.inRound l (callsIn_wide.2 HG.out)).mono ?_; rintro e v1 ⟨rfl, hb1⟩; have HS1 := Lib.hid (HS.out v1 hb1); clear hb1)
        | (gi_at_call 48; refine (CallsIn.inRound l (callsIn_wide.2 HS1.out)).mono ?_; rintro e v2 ⟨⟨u, rfl⟩, hbt, hy2, hk2⟩; have HBT := Lib.hid hbt; have HY2 := Lib.hid hy2; have HF2 := Lib.hid (hbt.held (by omega) hf2.out); have fz2 := (hbt.held (show w.heap.size + 2 ≠ w.heap.size + 1 by omega) hf2.out).frozen 0; have fc2 : v2.cell? ⟨w.heap.size + 2, 0, none⟩ = some (.bool b) := (hbt.held (show w.heap.size + 2 ≠ w.heap.size + 1 by omega) hf2.out).cell 0; have HX2 := Lib.hid (hbt.held (show w.heap.size ≠ w.heap.size + 1 by omega) hx2.out); clear hbt hy2)
        | (gi_at_call 49; refine (CallsIn.inRound l (callsIn_wide.2 (HB2.out _))).mono ?_; rintro e v3 ⟨rfl, rfl⟩))
        refine ⟨HBT.out.keeps (by omega), HBT.out.kx (by omega) (by omega), HX2.out, ?_, ?_, hB.trans (HBT.out.below (by omega) (by omega))⟩
        · rw [HST.out]; exact HY2.out
        · rw [HST.out]; simpa using HF2.out
      · by_cases h1 : n < lo
        · gi_wp2_with (first
          | (with_reducible refine wpListIn_load_at (dst := some 26) 63 (.tmp 1) w.heap.size 0 LX _ (by kernel_rfl) (by kernel_rfl) RX.out Tryd.underlying63 (by kernel_rfl) IX.out ?_; simp only [Act.put, List.setIfInBounds_toArray, List.set_cons_succ, List.set_cons_zero])
          | (gi_at_call 47; refine (CallsIn.inRound l (callsIn_wide.2 HG.out)).mono ?_; rintro e v1 ⟨rfl, hb1⟩; have HS1 := Lib.hid (HS.out v1 hb1); clear hb1)
          | (gi_at_call 48; refine (CallsIn.inRound l (callsIn_wide.2 HS1.out)).mono ?_; rintro e v2 ⟨⟨u, rfl⟩, hbt, hy2, hk2⟩; have HBT := Lib.hid hbt; have HY2 := Lib.hid hy2; have HF2 := Lib.hid (hbt.held (by omega) hf2.out); have fz2 := (hbt.held (show w.heap.size + 2 ≠ w.heap.size + 1 by omega) hf2.out).frozen 0; have fc2 : v2.cell? ⟨w.heap.size + 2, 0, none⟩ = some (.bool b) := (hbt.held (show w.heap.size + 2 ≠ w.heap.size + 1 by omega) hf2.out).cell 0; have HX2 := Lib.hid (hbt.held (show w.heap.size ≠ w.heap.size + 1 by omega) hx2.out); clear hbt hy2)
          | (gi_at_call 49; refine (CallsIn.inRound l (callsIn_wide.2 (HB2.out _))).mono ?_; rintro e v3 ⟨rfl, rfl⟩))
          all_goals
            refine ⟨(HBT.out.keeps (by omega)).trans ((KeepsOthers.setCell _ _ _).from _), HX2.out.far (p := ⟨w.heap.size + 2, 0, none⟩) (by show w.heap.size ≠ w.heap.size + 2; omega) _, ⟨_, HY2.out.far (p := ⟨w.heap.size + 2, 0, none⟩) (by show w.heap.size + 1 ≠ w.heap.size + 2; omega) _, HSL.out⟩, HF2.out.set 0 _, (hB.trans (HBT.out.below (by omega) (by omega))).setCell (p := ⟨w.heap.size + 2, 0, none⟩) (by show w.heap.size ≤ w.heap.size + 2; omega) _, rfl, ?_⟩
            rw [HST.out]
            have hd : decide (lo ≤ n) = false := by simp; omega
            simp [hd]
        · by_cases h2 : hi < n
          · have h3 : lo ≤ n := by omega
            clear h1
            gi_wp2_with (first
            | (with_reducible refine wpListIn_load_at (dst := some 26) 63 (.tmp 1) w.heap.size 0 LX _ (by kernel_rfl) (by kernel_rfl) RX.out Tryd.underlying63 (by kernel_rfl) IX.out ?_; simp only [Act.put, List.setIfInBounds_toArray, List.set_cons_succ, List.set_cons_zero])
            | (gi_at_call 47; refine (CallsIn.inRound l (callsIn_wide.2 HG.out)).mono ?_; rintro e v1 ⟨rfl, hb1⟩; have HS1 := Lib.hid (HS.out v1 hb1); clear hb1)
            | (gi_at_call 48; refine (CallsIn.inRound l (callsIn_wide.2 HS1.out)).mono ?_; rintro e v2 ⟨⟨u, rfl⟩, hbt, hy2, hk2⟩; have HBT := Lib.hid hbt; have HY2 := Lib.hid hy2; have HF2 := Lib.hid (hbt.held (by omega) hf2.out); have fz2 := (hbt.held (show w.heap.size + 2 ≠ w.heap.size + 1 by omega) hf2.out).frozen 0; have fc2 : v2.cell? ⟨w.heap.size + 2, 0, none⟩ = some (.bool b) := (hbt.held (show w.heap.size + 2 ≠ w.heap.size + 1 by omega) hf2.out).cell 0; have HX2 := Lib.hid (hbt.held (show w.heap.size ≠ w.heap.size + 1 by omega) hx2.out); clear hbt hy2)
            | (gi_at_call 49; refine (CallsIn.inRound l (callsIn_wide.2 (HB2.out _))).mono ?_; rintro e v3 ⟨rfl, rfl⟩))
            all_goals
              refine ⟨(HBT.out.keeps (by omega)).trans ((KeepsOthers.setCell _ _ _).from _), HX2.out.far (p := ⟨w.heap.size + 2, 0, none⟩) (by show w.heap.size ≠ w.heap.size + 2; omega) _, ⟨_, HY2.out.far (p := ⟨w.heap.size + 2, 0, none⟩) (by show w.heap.size + 1 ≠ w.heap.size + 2; omega) _, HSL.out⟩, HF2.out.set 0 _, (hB.trans (HBT.out.below (by omega) (by omega))).setCell (p := ⟨w.heap.size + 2, 0, none⟩) (by show w.heap.size ≤ w.heap.size + 2; omega) _, rfl, ?_⟩
              rw [HST.out]
              have hd : decide (n ≤ hi) = false := by simp; omega
              simp [hd]
          · have h3 : lo ≤ n := by omega
            have h4 : n ≤ hi := by omega
            clear h1 h2
            gi_wp2_with (first
            | (with_reducible refine wpListIn_load_at (dst := some 26) 63 (.tmp 1) w.heap.size 0 LX _ (by kernel_rfl) (by kernel_rfl) RX.out Tryd.underlying63 (by kernel_rfl) IX.out ?_; simp only [Act.put, List.setIfInBounds_toArray, List.set_cons_succ, List.set_cons_zero])
            | (gi_at_call 47; refine (CallsIn.inRound l (callsIn_wide.2 HG.out)).mono ?_; rintro e v1 ⟨rfl, hb1⟩; have HS1 := Lib.hid (HS.out v1 hb1); clear hb1)
            | (gi_at_call 48; refine (CallsIn.inRound l (callsIn_wide.2 HS1.out)).mono ?_; rintro e v2 ⟨⟨u, rfl⟩, hbt, hy2, hk2⟩; have HBT := Lib.hid hbt; have HY2 := Lib.hid hy2; have HF2 := Lib.hid (hbt.held (by omega) hf2.out); have fz2 := (hbt.held (show w.heap.size + 2 ≠ w.heap.size + 1 by omega) hf2.out).frozen 0; have fc2 : v2.cell? ⟨w.heap.size + 2, 0, none⟩ = some (.bool b) := (hbt.held (show w.heap.size + 2 ≠ w.heap.size + 1 by omega) hf2.out).cell 0; have HX2 := Lib.hid (hbt.held (show w.heap.size ≠ w.heap.size + 1 by omega) hx2.out); clear hbt hy2)
            | (gi_at_call 49; refine (CallsIn.inRound l (callsIn_wide.2 (HB2.out _))).mono ?_; rintro e v3 ⟨rfl, rfl⟩))
            all_goals
              refine ⟨HBT.out.keeps (by omega), HBT.out.kx (by omega) (by omega), HX2.out, ?_, ?_, hB.trans (HBT.out.below (by omega) (by omega))⟩
              · rw [HST.out]; exact HY2.out
              · rw [HST.out]
                have hd : (decide (lo ≤ n) && decide (n ≤ hi)) = true := by simp [h3, h4]
                rw [hd]
                simpa using HF2.out
  case done =>
    rintro D ys W hD rfl ⟨hx, hy, hf, hB⟩ hK
    rw [fieldI_L] at hy hf
    have hyl : (foldE x (fieldL x.kind)).1.hash.length = 32 := fold_len x hlen _
    have f0 : W.cell? ⟨w.heap.size + 2, 0, none⟩ = some (.bool (foldE x (fieldL x.kind)).2) := hf.cell 0
    have rx := ent_range hx
    have ry := ent_range hy
    have ix : (Tryd.prog.info? 63).map (·.size) = some x.cells.length := by rw [ent_size x hlen]; simp [Ent.arr]
    have iy : (Tryd.prog.info? 63).map (·.size) = some (foldE x (fieldL x.kind)).1.cells.length := by rw [ent_size _ hyl]; simp [Ent.arr]
    have lq : (binOp .neq 63 (.agg x.cells.toArray) (.agg (foldE x (fieldL x.kind)).1.cells.toArray)).run Tryd.prog W = .ok (.bool (!decide (x = (foldE x (fieldL x.kind)).1))) W := by
      have := ent_in W 9997 x _ hlen hyl
      unfold Ent.arr at this
      rw [run_neq_struct, this]; rfl
    have HO := Lib.hid (show okE x = ((foldE x (fieldL x.kind)).2 && decide (x = (foldE x (fieldL x.kind)).1)) from rfl)
    obtain ⟨b2, hb2⟩ : ∃ b, (foldE x (fieldL x.kind)).2 = b := ⟨_, rfl⟩
    obtain ⟨b3, hb3e⟩ : ∃ b, decide (x = (foldE x (fieldL x.kind)).1) = b := ⟨_, rfl⟩
    rw [hb2] at f0
    rw [hb3e] at lq
    rw [hb2, hb3e] at HO
    obtain ⟨LX, hLX⟩ : ∃ L, x.cells = L := ⟨_, rfl⟩
    obtain ⟨LY, hLY⟩ : ∃ L, (foldE x (fieldL x.kind)).1.cells = L := ⟨_, rfl⟩
    rw [hLX] at rx ix lq
    rw [hLY] at ry iy lq
    have RX := Lib.hid rx
    have RY := Lib.hid ry
    have IX := Lib.hid ix
    have IY := Lib.hid iy
    have lg2 := fun a b => ent_guard W .neq a b LX.toArray LY.toArray
    have HE := Lib.hid ((ChkI.own (w := w) (x := x) w3.heap.size (by omega)).putObj (W := W) (.deferred none) ⟨hx, by rw [fieldI_L]; exact hy, by rw [fieldI_L]; exact hf, hB⟩ hD hK rfl).2.2.2
    clear hx hy hf hLX hLY hb2 hb3e hyl hbk HI HY rx ry ix iy
    cases b2
    · dsimp only
      go_wp2
      refine ⟨by simp, .inl ⟨_, _, rfl, run_takeDeferred (w := W) hK, ?_⟩⟩
      exact ⟨_, results_tmp rfl _ _ _, by rw [HO.out]; rfl, HE.out⟩
    · cases b3
      all_goals
        dsimp only
        go_wp2_with (first
          | (with_reducible refine wpList_load_at (dst := some 54) 63 (.tmp 1) w.heap.size 0 LX _ (by kernel_rfl) (by kernel_rfl) RX.out Tryd.underlying63 (by kernel_rfl) IX.out ?_; simp only [Act.put, List.setIfInBounds_toArray, List.set_cons_succ, List.set_cons_zero])
          | (with_reducible refine wpList_load_at (dst := some 55) 63 (.tmp 3) (w.heap.size + 1) 0 LY _ (by kernel_rfl) (by kernel_rfl) RY.out Tryd.underlying63 (by kernel_rfl) IY.out ?_; simp only [Act.put, List.setIfInBounds_toArray, List.set_cons_succ, List.set_cons_zero])
          | (with_reducible refine wpList_bin_at (dst := some 56) .neq 63 63 (.tmp 54) (.tmp 55) (.agg LX.toArray) (.agg LY.toArray) _ (by kernel_rfl) (by kernel_rfl) (by kernel_rfl) (lg2 _ _) lq ?_; simp only [Act.put, List.setIfInBounds_toArray, List.set_cons_succ, List.set_cons_zero]))
        refine ⟨by simp, .inl ⟨_, _, rfl, run_takeDeferred (w := W) hK, ?_⟩⟩
        exact ⟨_, results_tmp rfl _ _ _, by rw [HO.out]; rfl, HE.out⟩
  case stop =>
    rintro D c pre W hD hp ⟨hx, ⟨y, hy, hyl⟩, hf, hB, rfl, hbad⟩ hK
    have hno : okE x = false := by
      obtain ⟨m, hm⟩ := hp
      have := fold_no x (pre.map letN) (m.map letN) hbad
      rw [← List.map_append, hm, fieldI_L] at this
      unfold okE
      rw [this]; rfl
    have f0 : W.cell? ⟨w.heap.size + 2, 0, none⟩ = some (.bool false) := hf.cell 0
    have HO := Lib.hid hno
    have HE := Lib.hid ((ChkX.own (w := w) (x := x) (.exit 0) w3.heap.size (by omega)).putObj (W := W) (.deferred none) ⟨hx, ⟨y, hy, hyl⟩, hf, hB, rfl, hbad⟩ hD hK rfl).2.2.2.1
    clear hx hy hf hbad hp hno hbk HI HY
    dsimp only
    refine wpIn_wide.2 ?_
    go_wp2
    refine ⟨by simp, .inl ⟨_, _, rfl, run_takeDeferred (w := W) hK, ?_⟩⟩
    exact ⟨_, results_tmp rfl _ _ _, by rw [HO.out]; rfl, HE.out⟩
end Go.Proofs.YtnnknnaimabehaaDoor
