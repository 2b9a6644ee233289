/- Slices of integers that read as lists, and rows of the call's own. No program in sight. -/
import Derived.WalkKit
import Derived.WalkSpells
import Derived.Deep.Draws
import Derived.Maps.AppendAt
import Derived.Laws.AppendOwnNone
import Derived.Lib.Hide
import Derived.DataReads
namespace Go.Proofs.YtnnknnaimabehaaDoor
open Go.RowKit

theorem retb {a b : Bool} (h : a = b) : Ending.returned (.bool a) = .returned (.bool b) := by rw [h]
theorem reti {k : IntKind} {a b : Int} (h : a = b) : Ending.returned (.int k a) = .returned (.int k b) := by rw [h]
theorem ret2i {k k' : IntKind} {a b c d : Int} (h : a = b) (h' : c = d) : Ending.returned (.tuple #[.int k a, .int k' c]) = .returned (.tuple #[.int k b, .int k' d]) := by rw [h, h']
theorem u64w (n : Int) : IntKind.u64.wrap n = n % 18446744073709551616 := IntKind.wrap_u64 n

/-- The slice value at address A reads as the integers xs (of kind k), below block B. -/
def RdI (w : World) (B : Nat) (k : IntKind) (A : Option Addr) (xs : List Int) : Prop :=
  0 < xs.length → ∃ g off, A = some ⟨g, off, none⟩ ∧ g < B ∧ ∀ i x, xs[i]? = some x → w.cell? ⟨g, off + i, none⟩ = some (.int k x)

section
variable {w w' : World} {B B' : Nat} {k : IntKind} {A : Option Addr} {xs : List Int}
theorem RdI.nil : RdI w B k A [] := fun h => absurd h (by simp)
theorem RdI.at_ {i : Nat} (h : RdI w B k A xs) (hi : i < xs.length) : ∃ g off x, A = some ⟨g, off, none⟩ ∧ g < B ∧ xs[i]? = some x ∧ w.cell? ⟨g, off + i, none⟩ = some (.int k x) := by
  obtain ⟨g, off, e, hb, hc⟩ := h (by omega)
  exact ⟨g, off, xs[i], e, hb, List.getElem?_eq_getElem hi, hc i _ (List.getElem?_eq_getElem hi)⟩
theorem RdI.keep (h : RdI w B k A xs) (hk : ∀ p : Addr, p.block < B → w'.cell? p = w.cell? p) : RdI w' B k A xs := fun hn => by
  obtain ⟨g, off, e, hb, hc⟩ := h hn
  exact ⟨g, off, e, hb, fun i x hx => (hk _ hb).trans (hc i x hx)⟩
theorem RdI.more (h : RdI w B k A xs) (hB : B ≤ B') : RdI w B' k A xs := fun hn => by
  obtain ⟨g, off, e, hb, hc⟩ := h hn
  exact ⟨g, off, e, by omega, hc⟩
theorem RdI.below (h : RdI w B k A xs) (hb : Below B w w') : RdI w' B k A xs := h.keep fun _ hp => hb.cell hp
theorem RdI.up (h : RdI w w.heap.size k A xs) (hb : Below w.heap.size w w') : RdI w' w'.heap.size k A xs := (h.below hb).more hb.size
theorem RdI.drop (h : RdI w B k A xs) (n : Nat) (A' : Option Addr) (hA : ∀ g off, A = some ⟨g, off, none⟩ → n < xs.length → A' = some ⟨g, off + n, none⟩) : RdI w B k A' (xs.drop n) := fun hn => by
  simp only [List.length_drop] at hn
  obtain ⟨g, off, e, hb, hc⟩ := h (by omega)
  refine ⟨g, off + n, hA g off e (by omega), hb, fun i x hx => ?_⟩
  rw [List.getElem?_drop] at hx
  rw [Nat.add_assoc]
  exact hc _ _ hx
theorem RdI.take (h : RdI w B k A xs) (n : Nat) : RdI w B k A (xs.take n) := fun hn => by
  simp only [List.length_take] at hn
  obtain ⟨g, off, e, hb, hc⟩ := h (by omega)
  refine ⟨g, off, e, hb, fun i x hx => ?_⟩
  rw [List.getElem?_take] at hx
  split at hx
  · exact hc _ _ hx
  · cases hx
/-- An owned row of integers, read. -/
theorem RdI.of_own {base : Nat} {e : TypeId} {c n : Nat} (h : w.ownsRow base e 1 (.slice A n c) n (xs.map (Value.int k))) : RdI w w.heap.size k A xs := fun hn => by
  have hl := h.1
  simp only [List.length_map, Nat.mul_one] at hl
  rcases h.2 with ⟨hv, h0⟩ | ⟨g, cap, cur, hv, _, hg, _⟩
  · omega
  · injection hv with hA
    subst hA
    refine ⟨g, 0, rfl, (Array.getElem?_eq_some_iff.1 hg).1, fun i x hx => ?_⟩
    have := h.cells (g := g) rfl i (.int k x) (by simp [hx])
    rw [Nat.zero_add]
    rw [← this]
    unfold Addr.add
    split
    · rename_i h0; subst h0; rfl
    · simp
end

/-- What an owned slice looks like. -/
theorem own_form {w : World} {base : Nat} {e : TypeId} {size : Nat} {v : Value} {n : Nat} {xs : List Value} (h : w.ownsRow base e size v n xs) :
    ∃ A c, v = .slice A n c ∧ n ≤ c ∧ c ≤ maxLen := by
  rcases h.2 with ⟨rfl, rfl⟩ | ⟨g, cap, cur, rfl, _, _, h1, h2, _⟩
  · exact ⟨none, 0, rfl, by omega, by simp [maxLen]⟩
  · exact ⟨_, cap, rfl, h1, h2⟩

/-- The cell and the frozen mark of an owned row of integers. -/
theorem own_at {w : World} {base : Nat} {e : TypeId} {k : IntKind} {g c n : Nat} {xs : List Int} (h : w.ownsRow base e 1 (.slice (some ⟨g, 0, none⟩) n c) n (xs.map (Value.int k))) {i : Nat} (hi : i < xs.length) :
    ∃ x, xs[i]? = some x ∧ w.cell? ⟨g, i, none⟩ = some (.int k x) ∧ w.frozen? ⟨g, i, none⟩ = false := by
  have hl := h.1
  simp only [List.length_map, Nat.mul_one] at hl
  refine ⟨xs[i], List.getElem?_eq_getElem hi, ?_, h.frozenAt i⟩
  rw [h.cellAt i (by omega)]
  simp [hi]
theorem own_set {w : World} {base : Nat} {e : TypeId} {k : IntKind} {g c n : Nat} {xs : List Int} (h : w.ownsRow base e 1 (.slice (some ⟨g, 0, none⟩) n c) n (xs.map (Value.int k))) (i : Nat) (y : Int) :
    (w.setCell ⟨g, i, none⟩ (.int k y)).ownsRow base e 1 (.slice (some ⟨g, 0, none⟩) n c) n ((xs.set i y).map (Value.int k)) := by
  rw [List.map_set]
  exact (h.stored i _).1
theorem own_len {w : World} {base : Nat} {e : TypeId} {k : IntKind} {v : Value} {n : Nat} {xs : List Int} (h : w.ownsRow base e 1 v n (xs.map (Value.int k))) : xs.length = n := by
  have hl := h.1
  simpa using hl
theorem grownBy_set {a w : World} {g : Nat} (h : a.grownBy w (some g)) {p : Addr} (hp : p.block = g) (u : Value) : a.grownBy (w.setCell p u) (some g) :=
  ⟨h.os, h.tape, h.output, by simpa [World.setCell] using h.size, fun i hi hne => (Below.heap_setCell w p u i (fun e => hne (by rw [← hp, e]))).trans (h.block i hi hne)⟩
theorem grownBy_drew {a w : World} {r : Option Nat} (h : a.grownBy w r) : a.grownBy w.drew r := ⟨h.os, h.tape, h.output, h.size, h.block⟩
theorem grownBy_trans {a b c : World} {r : Option Nat} (h : a.grownBy b r) (h' : b.grownBy c r) : a.grownBy c r :=
  ⟨h'.os.trans h.os, h'.tape.trans h.tape, h'.output.trans h.output, Nat.le_trans h.size h'.size, fun k hk hne => (h'.block k (Nat.lt_of_lt_of_le hk h.size) hne).trans (h.block k hk hne)⟩
/-- What is written lies in a block of the call's own: below, nothing turns. -/
theorem Below.grownBy {B : Nat} {a w w' : World} {g : Nat} (h : Below B a w) (hB : B ≤ w.heap.size) (hg : w.grownBy w' (some g)) (hr : B ≤ g) : Below B a w' :=
  h.grown hg hB (fun k e => by injection e with e; omega)

theorem own_base {w : World} {base base' : Nat} {e : TypeId} {size : Nat} {v : Value} {n : Nat} {xs : List Value} (h : w.ownsRow base e size v n xs) (hb : base' ≤ base) : w.ownsRow base' e size v n xs := by
  refine ⟨h.1, ?_⟩
  rcases h.2 with h2 | ⟨g, cap, cur, hv, hg, r⟩
  · exact .inl h2
  · exact .inr ⟨g, cap, cur, hv, by omega, r⟩
theorem own_lt {w : World} {base : Nat} {e : TypeId} {size g n c : Nat} {xs : List Value} (h : w.ownsRow base e size (.slice (some ⟨g, 0, none⟩) n c) n xs) : base ≤ g ∧ g < w.heap.size := by
  rcases h.2 with ⟨h1, _⟩ | ⟨g', cap, cur, hv, hg, hh, _⟩
  · cases h1
  · injection hv with hv; injection hv with hv; injection hv with hv
    subst hv
    exact ⟨hg, (Array.getElem?_eq_some_iff.1 hh).1⟩
theorem own_pos {w : World} {base : Nat} {e : TypeId} {size : Nat} {v : Value} {n : Nat} {xs : List Value} (h : w.ownsRow base e size v n xs) (h0 : 0 < n) :
    ∃ g c, v = .slice (some ⟨g, 0, none⟩) n c ∧ base ≤ g ∧ g < w.heap.size ∧ n ≤ c ∧ c ≤ maxLen := by
  rcases h.2 with ⟨_, h2⟩ | ⟨g, cap, cur, hv, hg, hh, h1, h2, _⟩
  · omega
  · exact ⟨g, cap, hv, hg, (Array.getElem?_eq_some_iff.1 hh).1, h1, h2⟩
/-- A block that was just made, read from a place on. -/
theorem RdI.of_block {w : World} {T : TypeId} {cs : Array Value} {k : IntKind} {off : Nat} {xs : List Int} (h : (cs.toList.drop off).take xs.length = xs.map (Value.int k)) :
    RdI (w.alloc (.cells cs T)) (w.alloc (.cells cs T)).heap.size k (some ⟨w.heap.size, off, none⟩) xs := fun _ => by
  refine ⟨_, off, rfl, by simp, fun i x hx => ?_⟩
  have hi : i < xs.length := (List.getElem?_eq_some_iff.1 hx).1
  have h2 : (xs.map (Value.int k))[i]? = some (.int k x) := by simp [hx]
  rw [← h, List.getElem?_take, if_pos hi, List.getElem?_drop, Array.getElem?_toList] at h2
  rw [cell_of_row _ w.heap.size (off + i) cs T (0, 0) (heap_alloc_new w _)]
  exact h2

/-- A slice value, whole: its address, length and capacity, and the integers that it reads as. -/
def SlI (w : World) (B : Nat) (k : IntKind) (A : Option Addr) (n c : Nat) (xs : List Int) : Prop :=
  xs.length = n ∧ n ≤ c ∧ c ≤ maxLen ∧ (A = none → n = 0 ∧ c = 0) ∧ RdI w B k A xs
theorem SlI.nil (w : World) (B : Nat) (k : IntKind) : SlI w B k none 0 0 [] := ⟨rfl, by omega, by simp [maxLen], fun _ => ⟨rfl, rfl⟩, RdI.nil⟩
theorem SlI.up {w w' : World} {k : IntKind} {A : Option Addr} {n c : Nat} {xs : List Int} (h : SlI w w.heap.size k A n c xs) (hb : Below w.heap.size w w') : SlI w' w'.heap.size k A n c xs :=
  ⟨h.1, h.2.1, h.2.2.1, h.2.2.2.1, h.2.2.2.2.up hb⟩
theorem SlI.of_own {w : World} {base : Nat} {e : TypeId} {k : IntKind} {v : Value} {n : Nat} {xs : List Int} (h : w.ownsRow base e 1 v n (xs.map (Value.int k))) :
    ∃ A c, v = .slice A n c ∧ SlI w w.heap.size k A n c xs := by
  have hl := own_len h
  rcases h.2 with ⟨rfl, rfl⟩ | ⟨g, cap, cur, rfl, hb, hh, h1, h2, r⟩
  · exact ⟨none, 0, rfl, by omega, by omega, by simp [maxLen], fun _ => ⟨rfl, rfl⟩, by rw [List.length_eq_zero_iff.1 hl]; exact RdI.nil⟩
  · exact ⟨_, cap, rfl, hl, h1, h2, (fun e => by cases e), RdI.of_own h⟩
theorem news_of {w : World} {B : Nat} {k : IntKind} {a : Addr} {xs : List Int} (h : RdI w B k (some a) xs) : ∀ j u, (xs.map (Value.int k))[j]? = some u → w.cell? (a.add j) = some u := by
  intro j u hu
  rw [List.getElem?_map] at hu
  obtain ⟨x, hx, rfl⟩ := Option.map_eq_some_iff.1 hu
  obtain ⟨g, off, e, _, hc⟩ := h (by have := (List.getElem?_eq_some_iff.1 hx).1; omega)
  injection e with e
  subst e
  rw [← hc j x hx]
  unfold Addr.add
  split
  · rename_i h0; subst h0; rfl
  · rfl
/-- append(own row, a slice that reads ys...) -/
theorem wpList_append_sl {P : Program} (w : World) {ops : Array Oper} {rest : List Oper} {o : Oper} {a : Act} {Q : Exit → Act → World → Prop} (hgd : o.guard = none) (s x : Operand) (t : TypeId)
    (ho : o.op = .call { callee := .builtin .append, args := #[s, x], argTypes := #[t, t] })
    (base : Nat) (e : TypeId) (i : TypeInfo) (z : Value) (bytes : Nat) (ht : P.underlying t = some (.slice e)) (hi : P.info? e = some i) (hz : i.zero = some z)
    (hsize : i.size = 1) (hby : i.bytes = bytes) (hzs : z.cells.size = 1)
    (v : Value) (n : Nat) (xs : List Value) (hs : a.eval s = v) (hown : w.ownsRow base e 1 v n xs)
    (B : Nat) (k : IntKind) (A : Option Addr) (m c : Nat) (ys : List Int) (hx : a.eval x = .slice A m c) (hr : SlI w B k A m c ys)
    (h63 : n + m ≤ maxLen) (hbytes : (n + m) * bytes ≤ 140737488355328) (hbase : base ≤ w.heap.size)
    (h : ∀ v' w', w'.ownsRow base e 1 v' (n + m) (xs ++ ys.map (Value.int k)) → w.grownBy w' v.ownBlock → (v'.ownBlock = v.ownBlock ∨ v'.ownBlock = some w.heap.size) → wpList P ops Q rest (a.put o.dst v') w') : wpList P ops Q (o :: rest) a w := by
  obtain ⟨hl, hmc, _, hnone, hrd⟩ := hr
  cases A with
  | none =>
    obtain ⟨rfl, rfl⟩ := hnone rfl
    obtain rfl := List.length_eq_zero_iff.1 hl
    exact wpList_append_own_none hgd s x t ho base e i 1 ht hi v n xs hs hown hx (h v w (by simpa using hown) (World.grownBy.refl _ _) (.inl rfl))
  | some ad =>
    refine wpList_append_own_at w hgd s x t ho base e i z 1 bytes ht hi hz hsize hby hzs (by omega) v n xs hs hown ad m c (ys.map (Value.int k)) hx (by simp [hl]) (news_of hrd) (ints_oneCell _ _) h63 hbytes hbase ?_
    intro v' w' h1 h2 _ h4
    exact h v' w' h1 h2 h4
/-- A slice that came in, as the row's opening tells it. -/
theorem SlI.of_row {w : World} {k : IntKind} {a : Addr} {len cap : Nat} {zs : List Int} (hl : len ≤ cap) (hm : cap ≤ maxLen) (hz : zs.length = cap) (hc : ∀ i, i < zs.length → w.cell? (a.add i) = some (.int k (zs.getD i 0))) :
    SlI w w.heap.size k (some a) len cap (zs.take len) := by
  refine ⟨by simp; omega, hl, hm, (fun e => by cases e), fun hn => ?_⟩
  simp only [List.length_take] at hn
  obtain ⟨g, off, spot⟩ := a
  have h0 := hc 0 (by omega)
  have hs : spot = none := by simpa [Addr.add] using World.cell?_spot h0
  subst hs
  refine ⟨g, off, rfl, ?_, fun i x hx => ?_⟩
  · have := World.block_lt_of_cell? w _ h0
    simpa [Addr.add] using this
  · rw [List.getElem?_take] at hx
    split at hx
    · have hi : i < zs.length := (List.getElem?_eq_some_iff.1 hx).1
      have := hc i hi
      rw [List.getD, hx] at this
      rw [← show (some x).getD 0 = x from rfl, ← this]
      unfold Addr.add
      split
      · rename_i h0; subst h0; rfl
      · rfl
    · cases hx
end Go.Proofs.YtnnknnaimabehaaDoor
