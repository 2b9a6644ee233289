/- The ledger's book: as a structure, as cells; what Add computes, in plain Lean. No program in sight. -/
import Derived.Test.YtjcpgnachkhjaaaDoorLedPlain
import Derived.Test.YtjcpgnachkhjaaaDoorWhole
namespace Go.Proofs.YtjcpgnachkhjaaaDoor
open Go.RowKit

structure Tot where
  energy : Int
  cost : Int
  many : Int
deriving DecidableEq
structure SumS where
  energy : Int
  cost : Int
  intervals : Int
  flagged : Int
  suspects : Int
  replaced : Int
  corrected : Int
  last : Ent
deriving DecidableEq
def Tot.zero : Tot := ⟨0, 0, 0⟩
def SumS.zero : SumS := ⟨0, 0, 0, 0, 0, 0, 0, Ent.none 0⟩
def Tot.cells (t : Tot) : List Value := [.int .i64 t.energy, .int .i64 t.cost, .int .i64 t.many]
def Tot.arr (t : Tot) : Array Value := t.cells.toArray
def SumS.cells (s : SumS) : List Value :=
  .int .i64 s.energy :: .int .i64 s.cost :: .int .i64 s.intervals :: .int .i64 s.flagged :: .int .i64 s.suspects :: .int .i64 s.replaced :: .int .i64 s.corrected :: s.last.cells
def SumS.arr (s : SumS) : Array Value := s.cells.toArray
structure Bk where
  tot : List Tot
  sums : List SumS
  ofm : List Int
  many : Int
  seals : Int
def Bk.cells (b : Bk) : List Value := b.tot.flatMap Tot.cells ++ (b.sums.flatMap SumS.cells ++ (b.ofm.map (Value.int .i64) ++ [.int .i64 b.many, .int .i64 b.seals]))
def Bk.arr (b : Bk) : Array Value := b.cells.toArray
def Bk.zero : Bk := ⟨List.replicate 512 Tot.zero, List.replicate 64 SumS.zero, List.replicate 64 0, 0, 0⟩
theorem Tot.cells_len (t : Tot) : t.cells.length = 3 := rfl
theorem SumS.cells_len (s : SumS) (h : s.last.hash.length = 32) : s.cells.length = 49 := by simp [SumS.cells, Ent.cells_len _ h]
theorem SumS.arr_size (s : SumS) (h : s.last.hash.length = 32) : s.arr.size = 49 := by simp [SumS.arr, SumS.cells_len s h]

/-- An amount that a total or a sum may have. -/
def amt (n : Int) : Prop := -4611686018427387904 ≤ n ∧ n ≤ 4611686018427387904
def Tot.ok (K : Int) (t : Tot) : Prop := amt t.energy ∧ amt t.cost ∧ 0 ≤ t.many ∧ t.many ≤ K
def SumS.ok (K : Int) (s : SumS) : Prop :=
  amt s.energy ∧ amt s.cost ∧ (0 ≤ s.intervals ∧ s.intervals ≤ K) ∧ (0 ≤ s.flagged ∧ s.flagged ≤ K) ∧ (0 ≤ s.suspects ∧ s.suspects ≤ K) ∧ (0 ≤ s.replaced ∧ s.replaced ≤ K) ∧ (0 ≤ s.corrected ∧ s.corrected ≤ K) ∧ s.last.ok
/-- A book behind at most K entries. -/
structure Bk.ok (K : Int) (b : Bk) : Prop where
  tl : b.tot.length = 512
  sl : b.sums.length = 64
  ol : b.ofm.length = 64
  t : ∀ t ∈ b.tot, t.ok K
  s : ∀ s ∈ b.sums, s.ok K
  o : ∀ n ∈ b.ofm, 0 ≤ n ∧ n ≤ K
  m : 0 ≤ b.many ∧ b.many ≤ K
  e : 0 ≤ b.seals ∧ b.seals ≤ K
theorem Ent.none_ok : (Ent.none 0).ok := by
  refine ⟨rfl, rfl, rfl, rfl, rfl, rfl, rfl, rfl, rfl, rfl, rfl, ?_⟩
  intro x hx
  have := List.eq_of_mem_replicate hx
  omega
theorem amt0 : amt 0 := by unfold amt; omega
theorem SumS.zero_ok (K : Int) (h : 0 ≤ K) : SumS.zero.ok K :=
  ⟨amt0, amt0, ⟨by decide, h⟩, ⟨by decide, h⟩, ⟨by decide, h⟩, ⟨by decide, h⟩, ⟨by decide, h⟩, Ent.none_ok⟩
theorem Tot.zero_ok (K : Int) (h : 0 ≤ K) : Tot.zero.ok K := ⟨amt0, amt0, by decide, h⟩
theorem Bk.zero_ok : Bk.zero.ok 0 where
  tl := List.length_replicate
  sl := List.length_replicate
  ol := List.length_replicate
  t := fun t h => by rw [List.eq_of_mem_replicate h]; exact Tot.zero_ok 0 (by decide)
  s := fun t h => by rw [List.eq_of_mem_replicate h]; exact SumS.zero_ok 0 (by decide)
  o := fun t h => by rw [List.eq_of_mem_replicate h]; decide
  m := by decide
  e := by decide
theorem Tot.ok.mono {K L : Int} {t : Tot} (h : t.ok K) (hl : K ≤ L) : t.ok L := by
  obtain ⟨a, b, c, d⟩ := h
  exact ⟨a, b, c, by omega⟩
theorem SumS.ok.mono {K L : Int} {s : SumS} (h : s.ok K) (hl : K ≤ L) : s.ok L := by
  obtain ⟨a, b, ⟨c, c'⟩, ⟨d, d'⟩, ⟨e, e'⟩, ⟨f, f'⟩, ⟨g, g'⟩, i⟩ := h
  exact ⟨a, b, ⟨c, by omega⟩, ⟨d, by omega⟩, ⟨e, by omega⟩, ⟨f, by omega⟩, ⟨g, by omega⟩, i⟩
theorem Bk.ok.mono {K L : Int} {b : Bk} (h : b.ok K) (hl : K ≤ L) : b.ok L where
  tl := h.tl
  sl := h.sl
  ol := h.ol
  t := fun t ht => (h.t t ht).mono hl
  s := fun t ht => (h.s t ht).mono hl
  o := fun n hn => ⟨(h.o n hn).1, by have := (h.o n hn).2; omega⟩
  m := ⟨h.m.1, by have := h.m.2; omega⟩
  e := ⟨h.e.1, by have := h.e.2; omega⟩
theorem SumS.ok.hash {K : Int} {s : SumS} (h : s.ok K) : s.last.hash.length = 32 := h.2.2.2.2.2.2.2.2.2.2.2.2.2.2.2.2.2.1

/-- The total of a meter and a band; a meter's sum; how many of it. -/
def Bk.totAt (b : Bk) (m k : Nat) : Tot := b.tot.getD (m * 8 + k) Tot.zero
def Bk.sumAt (b : Bk) (m : Nat) : SumS := b.sums.getD m SumS.zero
def Bk.ofAt (b : Bk) (m : Nat) : Int := b.ofm.getD m 0
theorem getD_mem {α : Type} (l : List α) (i : Nat) (d : α) (h : i < l.length) : l.getD i d ∈ l := by
  rw [List.getD_eq_getElem?_getD, List.getElem?_eq_getElem h]
  exact List.getElem_mem h
theorem Bk.ok.totAt {K : Int} {b : Bk} (h : b.ok K) (m k : Nat) (hm : m < 64) (hk : k < 8) : (b.totAt m k).ok K := h.t _ (getD_mem _ _ _ (by rw [h.tl]; omega))
theorem Bk.ok.sumAt {K : Int} {b : Bk} (h : b.ok K) (m : Nat) (hm : m < 64) : (b.sumAt m).ok K := h.s _ (getD_mem _ _ _ (by rw [h.sl]; omega))
theorem Bk.ok.ofAt {K : Int} {b : Bk} (h : b.ok K) (m : Nat) (hm : m < 64) : 0 ≤ b.ofAt m ∧ b.ofAt m ≤ K := h.o _ (getD_mem _ _ _ (by rw [h.ol]; omega))

/-- A sum that is not beyond. -/
def sumP (a b : Int) : Int × Int := if -4611686018427387904 ≤ a + b ∧ a + b ≤ 4611686018427387904 then (a + b, 0) else (0, 10)
def max4 (a b c d : Int) : Int := max (max (max a b) c) d
def amountsP (t : Tot) (s : SumS) (x : Ent) : Tot × SumS × Int :=
  (⟨(sumP t.energy x.energy).1, (sumP t.cost x.cost).1, t.many + 1⟩, { s with energy := (sumP s.energy x.energy).1, cost := (sumP s.cost x.cost).1 },
    max4 (sumP t.energy x.energy).2 (sumP t.cost x.cost).2 (sumP s.energy x.energy).2 (sumP s.cost x.cost).2)
def nextP (b : Bk) (x : Ent) : Tot × SumS × Int :=
  if okE x = false then (Tot.zero, SumS.zero, 150)
  else if x.kind = 2 then (b.totAt x.meter.toNat x.band.toNat, { b.sumAt x.meter.toNat with suspects := (b.sumAt x.meter.toNat).suspects + 1 }, 0)
  else if x.kind = 3 then (b.totAt x.meter.toNat x.band.toNat, { b.sumAt x.meter.toNat with replaced := (b.sumAt x.meter.toNat).replaced + 1 }, 0)
  else if x.kind = 1 then amountsP (b.totAt x.meter.toNat x.band.toNat) { b.sumAt x.meter.toNat with last := x, intervals := (b.sumAt x.meter.toNat).intervals + 1, flagged := (b.sumAt x.meter.toNat).flagged + min x.flags 1 } x
  else if x.kind = 4 then amountsP (b.totAt x.meter.toNat x.band.toNat) { b.sumAt x.meter.toNat with corrected := (b.sumAt x.meter.toNat).corrected + 1 } x
  else (b.totAt x.meter.toNat x.band.toNat, b.sumAt x.meter.toNat, 0)
def addP (b : Bk) (x : Ent) : Bk × Int :=
  if (nextP b x).2.2 ≠ 0 then (b, (nextP b x).2.2)
  else if x.kind = 5 then ({ b with many := b.many + 1, seals := b.seals + 1 }, 0)
  else ({ b with tot := b.tot.set (x.meter.toNat * 8 + x.band.toNat) (nextP b x).1, sums := b.sums.set x.meter.toNat (nextP b x).2.1, ofm := b.ofm.set x.meter.toNat (b.ofAt x.meter.toNat + 1), many := b.many + 1 }, 0)

/-- What an entry that may be has within bounds. -/
theorem okE_in (x : Ent) (hx : x.ok) (h : okE x = true) : (1 ≤ x.kind ∧ x.kind ≤ 5) ∧ (0 ≤ x.meter ∧ x.meter ≤ 63) ∧ (0 ≤ x.band ∧ x.band ≤ 7) ∧ amt x.energy ∧ amt x.cost ∧ (0 ≤ x.flags ∧ x.flags ≤ 15) := by
  rw [okE_may x hx] at h
  unfold mayE at h
  unfold amt
  by_cases k1 : x.kind = 1
  · simp [k1] at h; omega
  by_cases k2 : x.kind = 2
  · simp [k2] at h; omega
  by_cases k3 : x.kind = 3
  · simp [k3] at h; omega
  by_cases k4 : x.kind = 4
  · simp [k4] at h; omega
  by_cases k5 : x.kind = 5
  · simp [k5] at h; omega
  · simp [k1, k2, k3, k4, k5] at h

/- The cells, parted. -/
theorem flat_part {α : Type} (c : α → List Value) (n : Nat) (l : List α) (i : Nat) (hi : i < l.length) (hc : ∀ x ∈ l, (c x).length = n) :
    ∃ A C, A.length = i * n ∧ ∀ x, (l.set i x).flatMap c = A ++ (c x ++ C) := by
  refine ⟨(l.take i).flatMap c, (l.drop (i + 1)).flatMap c, ?_, fun x => ?_⟩
  · have : ∀ k : List α, (∀ x ∈ k, (c x).length = n) → (k.flatMap c).length = k.length * n := by
      intro k
      induction k with
      | nil => simp
      | cons a k ih =>
        intro h
        rw [List.flatMap_cons, List.length_append, h a (by simp), ih (fun x hx => h x (by simp [hx])), List.length_cons, Nat.succ_mul, Nat.add_comm]
    rw [this _ (fun x hx => hc x (List.mem_of_mem_take hx)), List.length_take, Nat.min_eq_left (Nat.le_of_lt hi)]
  · rw [List.set_eq_take_append_cons_drop, if_pos hi, List.flatMap_append, List.flatMap_cons]
theorem flat_len {α : Type} (c : α → List Value) (n : Nat) (l : List α) (hc : ∀ x ∈ l, (c x).length = n) : (l.flatMap c).length = l.length * n := by
  induction l with
  | nil => simp
  | cons a k ih => rw [List.flatMap_cons, List.length_append, hc a (by simp), ih (fun x hx => hc x (by simp [hx])), List.length_cons, Nat.succ_mul, Nat.add_comm]
theorem set_getD {α : Type} (l : List α) (i : Nat) (d : α) (h : i < l.length) : l.set i (l.getD i d) = l := by
  rw [List.getD_eq_getElem?_getD, List.getElem?_eq_getElem h]
  simp
theorem Bk.part_tot {K : Int} (b : Bk) (h : b.ok K) (i : Nat) (hi : i < 512) : ∃ A C, A.length = i * 3 ∧ ∀ t, ({ b with tot := b.tot.set i t } : Bk).cells = A ++ (t.cells ++ C) := by
  obtain ⟨A, C, ha, hac⟩ := flat_part Tot.cells 3 b.tot i (by rw [h.tl]; exact hi) (fun x _ => rfl)
  refine ⟨A, C ++ (b.sums.flatMap SumS.cells ++ (b.ofm.map (Value.int .i64) ++ [.int .i64 b.many, .int .i64 b.seals])), ha, fun t => ?_⟩
  unfold Bk.cells
  simp only
  rw [hac t]
  simp only [List.append_assoc]
theorem Bk.part_sum {K : Int} (b : Bk) (h : b.ok K) (i : Nat) (hi : i < 64) : ∃ A C, A.length = 1536 + i * 49 ∧ ∀ s, ({ b with sums := b.sums.set i s } : Bk).cells = A ++ (s.cells ++ C) := by
  obtain ⟨A, C, ha, hac⟩ := flat_part SumS.cells 49 b.sums i (by rw [h.sl]; exact hi) (fun x hx => SumS.cells_len x (h.s x hx).hash)
  refine ⟨b.tot.flatMap Tot.cells ++ A, C ++ (b.ofm.map (Value.int .i64) ++ [.int .i64 b.many, .int .i64 b.seals]), ?_, fun t => ?_⟩
  rotate_left
  · unfold Bk.cells
    simp only
    rw [hac t]
    simp only [List.append_assoc]
  rw [List.length_append, flat_len Tot.cells 3 _ (fun _ _ => rfl), h.tl, ha]
theorem Bk.head_len {K : Int} (b : Bk) (h : b.ok K) : (b.tot.flatMap Tot.cells ++ b.sums.flatMap SumS.cells).length = 4672 := by
  rw [List.length_append, flat_len Tot.cells 3 _ (fun _ _ => rfl), h.tl, flat_len SumS.cells 49 _ (fun x hx => SumS.cells_len x (h.s x hx).hash), h.sl]
theorem Bk.cells_len {K : Int} (b : Bk) (h : b.ok K) : b.cells.length = 4738 := by
  have := Bk.head_len b h
  unfold Bk.cells
  simp only [List.length_append, List.length_map, h.ol, List.length_cons, List.length_nil] at this ⊢
  omega
theorem Bk.arr_size {K : Int} (b : Bk) (h : b.ok K) : b.arr.size = 4738 := by simp [Bk.arr, Bk.cells_len b h]
theorem Bk.of_cell {K : Int} (b : Bk) (h : b.ok K) (i : Nat) (hi : i < 64) : b.arr[4672 + i]? = some (.int .i64 (b.ofAt i)) := by
  have hl := Bk.head_len b h
  simp only [Bk.arr, List.getElem?_toArray]
  unfold Bk.cells
  rw [← List.append_assoc, List.getElem?_append_right (by omega), hl, List.getElem?_append_left (by simp [h.ol]; omega)]
  rw [Nat.add_sub_cancel_left, List.getElem?_map, List.getElem?_eq_getElem (by rw [h.ol]; exact hi)]
  unfold Bk.ofAt
  rw [List.getD_eq_getElem?_getD, List.getElem?_eq_getElem (by rw [h.ol]; exact hi)]
  rfl
theorem Bk.many_cell {K : Int} (b : Bk) (h : b.ok K) : b.arr[4736]? = some (.int .i64 b.many) := by
  have hl := Bk.head_len b h
  simp only [Bk.arr, List.getElem?_toArray]
  unfold Bk.cells
  rw [← List.append_assoc, List.getElem?_append_right (by omega), hl, List.getElem?_append_right (by simp [h.ol])]
  simp [h.ol]
theorem Bk.seals_cell {K : Int} (b : Bk) (h : b.ok K) : b.arr[4737]? = some (.int .i64 b.seals) := by
  have hl := Bk.head_len b h
  simp only [Bk.arr, List.getElem?_toArray]
  unfold Bk.cells
  rw [← List.append_assoc, List.getElem?_append_right (by omega), hl, List.getElem?_append_right (by simp [h.ol])]
  simp [h.ol]
theorem Bk.of_set {K : Int} (b : Bk) (h : b.ok K) (i : Nat) (n : Int) (hi : i < 64) : b.arr.setIfInBounds (4672 + i) (.int .i64 n) = ({ b with ofm := b.ofm.set i n } : Bk).arr := by
  have hl := Bk.head_len b h
  simp only [Bk.arr, List.setIfInBounds_toArray]
  congr 1
  unfold Bk.cells
  simp only
  rw [← List.append_assoc, List.set_append_right _ _ (by omega), hl, List.set_append_left _ _ (by simp [h.ol]; omega), Nat.add_sub_cancel_left, List.map_set, List.append_assoc]
theorem Bk.many_set {K : Int} (b : Bk) (h : b.ok K) (n : Int) : b.arr.setIfInBounds 4736 (.int .i64 n) = ({ b with many := n } : Bk).arr := by
  have hl := Bk.head_len b h
  simp only [Bk.arr, List.setIfInBounds_toArray]
  congr 1
  unfold Bk.cells
  simp only
  rw [← List.append_assoc, List.set_append_right _ _ (by omega), hl, List.set_append_right _ _ (by simp [h.ol]), List.append_assoc]
  simp [h.ol]
theorem Bk.seals_set {K : Int} (b : Bk) (h : b.ok K) (n : Int) : b.arr.setIfInBounds 4737 (.int .i64 n) = ({ b with seals := n } : Bk).arr := by
  have hl := Bk.head_len b h
  simp only [Bk.arr, List.setIfInBounds_toArray]
  congr 1
  unfold Bk.cells
  simp only
  rw [← List.append_assoc, List.set_append_right _ _ (by omega), hl, List.set_append_right _ _ (by simp [h.ol]), List.append_assoc]
  simp [h.ol]

/- Ranges of a block that is held. -/
theorem held_range {W : World} {B : Nat} {t : TypeId} {A vs C : List Value} (h : Held W B t (A ++ (vs ++ C)).toArray) : W.rangeAt B A.length vs := fun j v hv => by
  rw [h.cell, List.getElem?_toArray, List.getElem?_append_right (by omega), Nat.add_sub_cancel_left, List.getElem?_append_left (by have := (List.getElem?_eq_some_iff.1 hv).1; omega), hv]
theorem held_there {W : World} {B o n : Nat} {t : TypeId} {cs : Array Value} (h : Held W B t cs) (hn : o + n ≤ cs.size) : W.there B o n := fun j hj => by
  refine ⟨?_, h.frozen _⟩
  rw [h.cell, Array.getElem?_eq_getElem (by omega)]; rfl
theorem held_setCells {B : Nat} {t : TypeId} (vs old : List Value) {W : World} (A C : List Value) (hl : vs.length = old.length) (h : Held W B t (A ++ (old ++ C)).toArray) : Held (W.setCells B A.length vs) B t (A ++ (vs ++ C)).toArray := held_splice vs old A C hl h
theorem below_setCells {N B : Nat} : ∀ (vs : List Value) (o : Nat) {W W' : World}, Below N W W' → N ≤ B → Below N W (W'.setCells B o vs)
  | [], _, _, _, h, _ => h
  | v :: vs, o, _, _, h, hB => by
    rw [World.setCells]
    exact below_setCells vs (o + 1) (h.setCell (p := ⟨B, o, none⟩) hB v) hB
/- What a book's block holds, where. -/
theorem Bk.self_tot {K : Int} (b : Bk) (h : b.ok K) (i : Nat) (hi : i < 512) : ({ b with tot := b.tot.set i (b.tot.getD i Tot.zero) } : Bk) = b := by rw [set_getD _ _ _ (by rw [h.tl]; exact hi)]
theorem Bk.self_sum {K : Int} (b : Bk) (h : b.ok K) (i : Nat) (hi : i < 64) : ({ b with sums := b.sums.set i (b.sums.getD i SumS.zero) } : Bk) = b := by rw [set_getD _ _ _ (by rw [h.sl]; exact hi)]
theorem Bk.tot_range {K : Int} (b : Bk) (h : b.ok K) (m k : Nat) (hm : m < 64) (hk : k < 8) {W : World} {g : Nat} {t : TypeId} (hB : Held W g t b.arr) : W.rangeAt g (m * 24 + k * 3) (b.totAt m k).cells := by
  obtain ⟨A, C, ha, hac⟩ := b.part_tot h (m * 8 + k) (by omega)
  have e := hac (b.tot.getD (m * 8 + k) Tot.zero)
  rw [b.self_tot h _ (by omega)] at e
  unfold Bk.arr at hB
  rw [e] at hB
  have := held_range hB
  rwa [ha, show (m * 8 + k) * 3 = m * 24 + k * 3 by omega] at this
theorem Bk.sum_range {K : Int} (b : Bk) (h : b.ok K) (m : Nat) (hm : m < 64) {W : World} {g : Nat} {t : TypeId} (hB : Held W g t b.arr) : W.rangeAt g (1536 + m * 49) (b.sumAt m).cells := by
  obtain ⟨A, C, ha, hac⟩ := b.part_sum h m hm
  have e := hac (b.sums.getD m SumS.zero)
  rw [b.self_sum h _ hm] at e
  unfold Bk.arr at hB
  rw [e] at hB
  have := held_range hB
  rwa [ha] at this
theorem Bk.tot_store {K : Int} (b : Bk) (h : b.ok K) (m k : Nat) (hm : m < 64) (hk : k < 8) (x : Tot) {W : World} {g : Nat} {t : TypeId} (hB : Held W g t b.arr) : Held (W.setCells g (m * 24 + k * 3) x.cells) g t ({ b with tot := b.tot.set (m * 8 + k) x } : Bk).arr := by
  obtain ⟨A, C, ha, hac⟩ := b.part_tot h (m * 8 + k) (by omega)
  have e := hac (b.tot.getD (m * 8 + k) Tot.zero)
  rw [b.self_tot h _ (by omega)] at e
  unfold Bk.arr at hB ⊢
  rw [e] at hB
  rw [hac x]
  have := held_splice x.cells _ A C (by rfl) hB
  rwa [ha, show (m * 8 + k) * 3 = m * 24 + k * 3 by omega] at this
theorem Bk.sum_store {K : Int} (b : Bk) (h : b.ok K) (m : Nat) (hm : m < 64) (x : SumS) (hx : x.last.hash.length = 32) {W : World} {g : Nat} {t : TypeId} (hB : Held W g t b.arr) : Held (W.setCells g (1536 + m * 49) x.cells) g t ({ b with sums := b.sums.set m x } : Bk).arr := by
  obtain ⟨A, C, ha, hac⟩ := b.part_sum h m hm
  have e := hac (b.sums.getD m SumS.zero)
  rw [b.self_sum h _ hm] at e
  unfold Bk.arr at hB ⊢
  rw [e] at hB
  rw [hac x]
  have := held_splice x.cells _ A C (by exact (SumS.cells_len _ hx).trans (SumS.cells_len _ (h.sumAt m hm).hash).symm) hB
  rwa [ha] at this
end Go.Proofs.YtjcpgnachkhjaaaDoor
