/- Slices of integers that read as lists, and rows of the call's own. No program in sight. -/
import Derived.WalkKit
import Derived.WalkSpells
import Derived.Deep.Draws
import Derived.Maps.AppendAt
import Derived.Laws.AppendOwnNone
import Derived.Lib.Hide
import Derived.DataReads
import Derived.RangeFuncNested
import Derived.Below
import Derived.ControlIn
import Derived.Scope
import Derived.AtR
import Derived.OwnWalkIn
import Derived.TacticsIn
import Derived.KernelRfl
import Derived.OrdersHeld
import Derived.OrdersIn
import Derived.RangeFuncCalls
import Derived.RangeFuncBox
import Derived.Deep.MidRow
import Derived.Lib.LaidTab
import Derived.OpenShut
import Derived.ProofKit
import Derived.Deep.QuietTactic
import Derived.Deep.WholeRow
import Derived.TacticsInMore
open List renaming setIfInBounds_toArray → zC, set_cons_zero → zE
namespace Go.Proofs.YtcipleanckeoaaaDoor
open Go.RowKit
theorem retb {a b : Bool} (h : a = b) : Ending.returned (.bool a) = .returned (.bool b) := by rw [h]
theorem reti {k : IntKind} {a b : Int} (h : a = b) : Ending.returned (.int k a) = .returned (.int k b) := by rw [h]
def RdI (w : World) (B : Nat) (k : IntKind) (A : Option Addr) (xs : List Int) : Prop :=
 0 < xs.length → ∃ g off, A = some ⟨g, off, none⟩ ∧ g < B ∧ ∀ i x, xs[i]? = some x → w.cell? ⟨g, off + i, none⟩ = some (.int k x)
section
variable {w w' : World} {B B' : Nat} {k : IntKind} {A : Option Addr} {xs : List Int}
theorem RdI.nil : RdI w B k A [] := fun h => absurd h (by simp)
theorem RdI.at_ {i : Nat} (h : RdI w B k A xs) (hi : i < xs.length) : ∃ g off x, A = some ⟨g, off, none⟩ ∧ g < B ∧ xs[i]? = some x ∧ w.cell? ⟨g, off + i, none⟩ = some (.int k x) := by
 obtain ⟨g, off, e, hb, hc⟩ := h (by omega)
 exact ⟨g, off, xs[i], e, hb, List.getElem?_eq_getElem hi, hc i _ (List.getElem?_eq_getElem hi)⟩
theorem RdI.keep (h : RdI w B k A xs) (hk : ∀ p : Addr, p.block < B → w'.cell? p = w.cell? p) : RdI w' B k A xs := fun hn => by
 obtain ⟨g, off, e, hb, hc⟩ := h hn
 exact ⟨g, off, e, hb, fun i x hx => (hk _ hb).trans (hc i x hx)⟩
theorem RdI.more (h : RdI w B k A xs) (hB : B ≤ B') : RdI w B' k A xs := fun hn => by
 obtain ⟨g, off, e, hb, hc⟩ := h hn
 exact ⟨g, off, e, by omega, hc⟩
theorem RdI.below (h : RdI w B k A xs) (hb : Below B w w') : RdI w' B k A xs := h.keep fun _ hp => hb.cell hp
theorem RdI.up (h : RdI w w.heap.size k A xs) (hb : Below w.heap.size w w') : RdI w' w'.heap.size k A xs := (h.below hb).more hb.size
theorem RdI.drop (h : RdI w B k A xs) (n : Nat) (A' : Option Addr) (hA : ∀ g off, A = some ⟨g, off, none⟩ → n < xs.length → A' = some ⟨g, off + n, none⟩) : RdI w B k A' (xs.drop n) := fun hn => by
 simp only [List.length_drop] at hn
 obtain ⟨g, off, e, hb, hc⟩ := h (by omega)
 refine ⟨g, off + n, hA g off e (by omega), hb, fun i x hx => ?_⟩
 rw [List.getElem?_drop] at hx
 rw [Nat.add_assoc]
 exact hc _ _ hx
theorem RdI.take (h : RdI w B k A xs) (n : Nat) : RdI w B k A (xs.take n) := fun hn => by
 simp only [List.length_take] at hn
 obtain ⟨g, off, e, hb, hc⟩ := h (by omega)
 refine ⟨g, off, e, hb, fun i x hx => ?_⟩
 rw [List.getElem?_take] at hx
 split at hx
 ·exact hc _ _ hx
 ·cases hx
theorem RdI.of_own {base : Nat} {e : TypeId} {c n : Nat} (h : w.ownsRow base e 1 (.slice A n c) n (xs.map (Value.int k))) : RdI w w.heap.size k A xs := fun hn => by
 have hl := h.1
 simp only [List.length_map, Nat.mul_one] at hl
 rcases h.2 with ⟨hv, h0⟩ | ⟨g, cap, cur, hv, _, hg, _⟩
 ·omega
 ·injection hv with hA
  subst hA
  refine ⟨g, 0, rfl, (Array.getElem?_eq_some_iff.1 hg).1, fun i x hx => ?_⟩
  have := h.cells (g := g) rfl i (.int k x) (by simp [hx])
  rw [Nat.zero_add]
  rw [← this]
  unfold Addr.add
  split
  ·rename_i h0; subst h0; rfl
  ·simp
end
theorem own_form {w : World} {base : Nat} {e : TypeId} {size : Nat} {v : Value} {n : Nat} {xs : List Value} (h : w.ownsRow base e size v n xs) :
  ∃ A c, v = .slice A n c ∧ n ≤ c ∧ c ≤ maxLen := by
 rcases h.2 with ⟨rfl, rfl⟩ | ⟨g, cap, cur, rfl, _, _, h1, h2, _⟩
 ·exact ⟨none, 0, rfl, by omega, by simp [maxLen]⟩
 ·exact ⟨_, cap, rfl, h1, h2⟩
theorem own_len {w : World} {base : Nat} {e : TypeId} {k : IntKind} {v : Value} {n : Nat} {xs : List Int} (h : w.ownsRow base e 1 v n (xs.map (Value.int k))) : xs.length = n := by
 have hl := h.1
 simpa using hl
theorem Below.grownBy {B : Nat} {a w w' : World} {g : Nat} (h : Below B a w) (hB : B ≤ w.heap.size) (hg : w.grownBy w' (some g)) (hr : B ≤ g) : Below B a w' :=
 h.grown hg hB (fun k e => by injection e with e; omega)
theorem own_base {w : World} {base base' : Nat} {e : TypeId} {size : Nat} {v : Value} {n : Nat} {xs : List Value} (h : w.ownsRow base e size v n xs) (hb : base' ≤ base) : w.ownsRow base' e size v n xs := by
 refine ⟨h.1, ?_⟩
 rcases h.2 with h2 | ⟨g, cap, cur, hv, hg, r⟩
 ·exact .inl h2
 ·exact .inr ⟨g, cap, cur, hv, by omega, r⟩
theorem own_pos {w : World} {base : Nat} {e : TypeId} {size : Nat} {v : Value} {n : Nat} {xs : List Value} (h : w.ownsRow base e size v n xs) (h0 : 0 < n) :
  ∃ g c, v = .slice (some ⟨g, 0, none⟩) n c ∧ base ≤ g ∧ g < w.heap.size ∧ n ≤ c ∧ c ≤ maxLen := by
 rcases h.2 with ⟨_, h2⟩ | ⟨g, cap, cur, hv, hg, hh, h1, h2, _⟩
 ·omega
 ·exact ⟨g, cap, hv, hg, (Array.getElem?_eq_some_iff.1 hh).1, h1, h2⟩
theorem RdI.of_block {w : World} {T : TypeId} {cs : Array Value} {k : IntKind} {off : Nat} {xs : List Int} (h : (cs.toList.drop off).take xs.length = xs.map (Value.int k)) :
  RdI (w.alloc (.cells cs T)) (w.alloc (.cells cs T)).heap.size k (some ⟨w.heap.size, off, none⟩) xs := fun _ => by
 refine ⟨_, off, rfl, by simp, fun i x hx => ?_⟩
 have hi : i < xs.length := (List.getElem?_eq_some_iff.1 hx).1
 have h2 : (xs.map (Value.int k))[i]? = some (.int k x) := by simp [hx]
 rw [← h, List.getElem?_take, if_pos hi, List.getElem?_drop, Array.getElem?_toList] at h2
 rw [cell_of_row _ w.heap.size (off + i) cs T (0, 0) (heap_alloc_new w _)]
 exact h2
def SlI (w : World) (B : Nat) (k : IntKind) (A : Option Addr) (n c : Nat) (xs : List Int) : Prop :=
 xs.length = n ∧ n ≤ c ∧ c ≤ maxLen ∧ (A = none → n = 0 ∧ c = 0) ∧ RdI w B k A xs
theorem SlI.nil (w : World) (B : Nat) (k : IntKind) : SlI w B k none 0 0 [] := ⟨rfl, by omega, by simp [maxLen], fun _ => ⟨rfl, rfl⟩, RdI.nil⟩
theorem SlI.up {w w' : World} {k : IntKind} {A : Option Addr} {n c : Nat} {xs : List Int} (h : SlI w w.heap.size k A n c xs) (hb : Below w.heap.size w w') : SlI w' w'.heap.size k A n c xs :=
 ⟨h.1, h.2.1, h.2.2.1, h.2.2.2.1, h.2.2.2.2.up hb⟩
theorem SlI.of_own {w : World} {base : Nat} {e : TypeId} {k : IntKind} {v : Value} {n : Nat} {xs : List Int} (h : w.ownsRow base e 1 v n (xs.map (Value.int k))) :
  ∃ A c, v = .slice A n c ∧ SlI w w.heap.size k A n c xs := by
 have hl := own_len h
 rcases h.2 with ⟨rfl, rfl⟩ | ⟨g, cap, cur, rfl, hb, hh, h1, h2, r⟩
 ·exact ⟨none, 0, rfl, by omega, by omega, by simp [maxLen], fun _ => ⟨rfl, rfl⟩, by rw [List.length_eq_zero_iff.1 hl]; exact RdI.nil⟩
 ·exact ⟨_, cap, rfl, hl, h1, h2, (fun e => by cases e), RdI.of_own h⟩
theorem news_of {w : World} {B : Nat} {k : IntKind} {a : Addr} {xs : List Int} (h : RdI w B k (some a) xs) : ∀ j u, (xs.map (Value.int k))[j]? = some u → w.cell? (a.add j) = some u := by
 intro j u hu
 rw [List.getElem?_map] at hu
 obtain ⟨x, hx, rfl⟩ := Option.map_eq_some_iff.1 hu
 obtain ⟨g, off, e, _, hc⟩ := h (by have := (List.getElem?_eq_some_iff.1 hx).1; omega)
 injection e with e
 subst e
 rw [← hc j x hx]
 unfold Addr.add
 split
 ·rename_i h0; subst h0; rfl
 ·rfl
theorem wpList_append_sl {P : Program} (w : World) {ops : Array Oper} {rest : List Oper} {o : Oper} {a : Act} {Q : Exit → Act → World → Prop} (hgd : o.guard = none) (s x : Operand) (t : TypeId)
  (ho : o.op = .call { callee := .builtin .append, args := #[s, x], argTypes := #[t, t] })
  (base : Nat) (e : TypeId) (i : TypeInfo) (z : Value) (bytes : Nat) (ht : P.underlying t = some (.slice e)) (hi : P.info? e = some i) (hz : i.zero = some z)
  (hsize : i.size = 1) (hby : i.bytes = bytes) (hzs : z.cells.size = 1)
  (v : Value) (n : Nat) (xs : List Value) (hs : a.eval s = v) (hown : w.ownsRow base e 1 v n xs)
  (B : Nat) (k : IntKind) (A : Option Addr) (m c : Nat) (ys : List Int) (hx : a.eval x = .slice A m c) (hr : SlI w B k A m c ys)
  (h63 : n + m ≤ maxLen) (hbytes : (n + m) * bytes ≤ 140737488355328) (hbase : base ≤ w.heap.size)
  (h : ∀ v' w', w'.ownsRow base e 1 v' (n + m) (xs ++ ys.map (Value.int k)) → w.grownBy w' v.ownBlock → (v'.ownBlock = v.ownBlock ∨ v'.ownBlock = some w.heap.size) → wpList P ops Q rest (a.put o.dst v') w') : wpList P ops Q (o :: rest) a w := by
 obtain ⟨hl, hmc, _, hnone, hrd⟩ := hr
 cases A with
 | none =>
  obtain ⟨rfl, rfl⟩ := hnone rfl
  obtain rfl := List.length_eq_zero_iff.1 hl
  exact wpList_append_own_none hgd s x t ho base e i 1 ht hi v n xs hs hown hx (h v w (by simpa using hown) (World.grownBy.refl _ _) (.inl rfl))
 | some ad =>
  refine wpList_append_own_at w hgd s x t ho base e i z 1 bytes ht hi hz hsize hby hzs (by omega) v n xs hs hown ad m c (ys.map (Value.int k)) hx (by simp [hl]) (news_of hrd) (ints_oneCell _ _) h63 hbytes hbase ?_
  intro v' w' h1 h2 _ h4
  exact h v' w' h1 h2 h4
theorem SlI.of_row {w : World} {k : IntKind} {a : Addr} {len cap : Nat} {zs : List Int} (hl : len ≤ cap) (hm : cap ≤ maxLen) (hz : zs.length = cap) (hc : ∀ i, i < zs.length → w.cell? (a.add i) = some (.int k (zs.getD i 0))) :
  SlI w w.heap.size k (some a) len cap (zs.take len) := by
 refine ⟨by simp; omega, hl, hm, (fun e => by cases e), fun hn => ?_⟩
 simp only [List.length_take] at hn
 obtain ⟨g, off, spot⟩ := a
 have h0 := hc 0 (by omega)
 have hs : spot = none := by simpa [Addr.add] using World.cell?_spot h0
 subst hs
 refine ⟨g, off, rfl, ?_, fun i x hx => ?_⟩
 ·have := World.block_lt_of_cell? w _ h0
  simpa [Addr.add] using this
 ·rw [List.getElem?_take] at hx
  split at hx
  ·have hi : i < zs.length := (List.getElem?_eq_some_iff.1 hx).1
   have := hc i hi
   rw [List.getD, hx] at this
   rw [← show (some x).getD 0 = x from rfl, ← this]
   unfold Addr.add
   split
   ·rename_i h0; subst h0; rfl
   ·rfl
  ·cases hx
theorem SlI.of_lit {w : World} {T : TypeId} {cs : Array Value} {k : IntKind} {n : Nat} {xs : List Int} (h : cs.toList = xs.map (Value.int k)) (hn : xs.length = n) (hm : n ≤ 1000000) :
  SlI (w.alloc (.cells cs T)) (w.alloc (.cells cs T)).heap.size k (some ⟨w.heap.size, 0, none⟩) n n xs :=
 ⟨hn, Nat.le_refl _, by unfold maxLen; omega, (fun e => by cases e), RdI.of_block (by rw [h, List.drop_zero, List.take_of_length_le (by simp)])⟩
theorem SlI.lit_at {w : World} {T : TypeId} {cs : Array Value} {k : IntKind} {n g : Nat} {xs : List Int} (hg : w.heap.size = g) (h : cs.toList = xs.map (Value.int k)) (hn : xs.length = n) (hm : n ≤ 1000000) :
  SlI (w.alloc (.cells cs T)) (w.alloc (.cells cs T)).heap.size k (some ⟨g, 0, none⟩) n n xs := by
 subst hg
 exact SlI.of_lit h hn hm
theorem SlI.drewN {w : World} {k : IntKind} {A : Option Addr} {n c : Nat} {xs : List Int} (h : SlI w w.heap.size k A n c xs) (m : Nat) : SlI (w.drewN m) (w.drewN m).heap.size k A n c xs := h
theorem SlI.alloc {w : World} {k : IntKind} {A : Option Addr} {n c : Nat} {xs : List Int} (h : SlI w w.heap.size k A n c xs) (o : Obj) : SlI (w.alloc o) (w.alloc o).heap.size k A n c xs := h.up ((Below.refl _ _).alloc (Nat.le_refl _) _)
theorem below_drewN {B : Nat} {a w : World} (h : Below B a w) (n : Nat) : Below B a (w.drewN n) := ⟨h.os, h.tape, h.output, h.size, h.block⟩
theorem SlI.take {w : World} {B : Nat} {k : IntKind} {A : Option Addr} {n c : Nat} {xs : List Int} (h : SlI w B k A n c xs) (m : Nat) (hm : m ≤ n) : SlI w B k A m c (xs.take m) :=
 ⟨by rw [List.length_take, h.1]; omega, by have := h.2.1; omega, h.2.2.1, (fun e => by have := h.2.2.2.1 e; omega), h.2.2.2.2.take m⟩
theorem SlI.drop {w : World} {B : Nat} {k : IntKind} {g off n c : Nat} {xs : List Int} (h : SlI w B k (some ⟨g, off, none⟩) n c xs) (m : Nat) (hm : m ≤ n) : SlI w B k (some ⟨g, off + m, none⟩) (n - m) (c - m) (xs.drop m) :=
 ⟨by rw [List.length_drop, h.1], by have := h.2.1; omega, by have := h.2.2.1; omega, (fun e => by cases e), h.2.2.2.2.drop m _ (fun g' off' e _ => by cases e; rfl)⟩
theorem SlI.some_ {w : World} {B : Nat} {k : IntKind} {A : Option Addr} {n c : Nat} {xs : List Int} (h : SlI w B k A n c xs) (hn : 0 < n) : ∃ g off, A = some ⟨g, off, none⟩ ∧ g < B := by
 obtain ⟨g, off, e, hb, _⟩ := h.2.2.2.2 (by rw [h.1]; exact hn)
 exact ⟨g, off, e, hb⟩
def Held (W : World) (B : Nat) (t : TypeId) (cs : Array Value) : Prop := W.heap[B]? = some (.cells cs t (0, 0))
section
variable {W W' : World} {B : Nat} {t : TypeId} {cs : Array Value}
theorem Held.lt (h : Held W B t cs) : B < W.heap.size := (Array.getElem?_eq_some_iff.1 h).1
theorem Held.new (W : World) (t : TypeId) (cs : Array Value) : Held (W.alloc (.cells cs t)) W.heap.size t cs := World.alloc_heap_new W _
theorem Held.kept {row : Option Nat} (h : Held W B t cs) (hg : W.grownBy W' row) (hne : some B ≠ row) : Held W' B t cs := (hg.block B h.lt hne).trans h
theorem Held.alloc (h : Held W B t cs) (o : Obj) : Held (W.alloc o) B t cs := h.kept (World.grownBy_alloc W o none) (by simp)
theorem Held.drew (h : Held W B t cs) : Held W.drew B t cs := h
theorem Held.cell (h : Held W B t cs) (i : Nat) : W.cell? ⟨B, i, none⟩ = cs[i]? := cell_of_row W B i cs t (0, 0) h
theorem Held.frozen (h : Held W B t cs) (i : Nat) : W.frozen? ⟨B, i, none⟩ = false := by
 unfold Held at h; simp [World.frozen?, h]
theorem Held.far (h : Held W B t cs) {p : Addr} (hp : B ≠ p.block) (u : Value) : Held (W.setCell p u) B t cs := (Below.heap_setCell W p u B hp).trans h
theorem Held.set (h : Held W B t cs) (i : Nat) (u : Value) : Held (W.setCell ⟨B, i, none⟩ u) B t (cs.setIfInBounds i u) := by
 unfold Held at h ⊢
 simp [World.setCell, Array.getElem?_modify, h]
theorem Held.below {n : Nat} (h : Held W B t cs) (hb : Below n W W') (hB : B < n) : Held W' B t cs := (hb.block B hB).trans h
theorem Held.not_row {e : TypeId} (h : Held W B t cs) (hte : t ≠ e) {base size k : Nat} {v : Value} {xs : List Value} (hr : W.ownsRow base e size v k xs) : some B ≠ v.ownBlock := by
 rcases hr.2 with ⟨rfl, _⟩ | ⟨g, cap, cur, rfl, _, hgb, _⟩
 ·simp [Value.ownBlock]
 ·intro e'
  obtain rfl : B = g := by simpa [Value.ownBlock] using e'
  have := (show W.heap[B]? = _ from h).symm.trans hgb
  simp at this
  exact hte this.2
end
theorem held_ownFrom {β : Type} {n B : Nat} {t : TypeId} {cs : Array Value} : OwnFrom n (fun (_ : β) W => Held W B t cs) := fun _ X Y row hs hg hr =>
 hs.kept hg (fun e => by
  obtain ⟨_, o, ho, hc⟩ := hr B e.symm
  rw [show X.heap[B]? = _ from hs] at ho; cases ho; cases hc)
theorem boxed_appended {W w0 w1 : World} {n₀ B : Nat} {t e : TypeId} {size : Nat} {v v' : Value} {k m : Nat} {xs ys : List Value}
  (hv : Boxed w0 B t v) (hte : t ≠ e) (hrow : w0.ownsRow n₀ e size v k xs) (hn₀ : n₀ ≤ w0.heap.size) (hB : n₀ ≤ B) (h0 : KeepsOthers W w0) (hb0 : Below n₀ W w0)
  (hown' : w1.ownsRow n₀ e size v' m ys) (hgrow : w0.grownBy w1 v.ownBlock) :
  Boxed w1 B t v ∧ Boxed (w1.setCell ⟨B, 0, none⟩ v') B t v' ∧ (w1.setCell ⟨B, 0, none⟩ v').ownsRow n₀ e size v' m ys ∧ KeepsOthers W (w1.setCell ⟨B, 0, none⟩ v') ∧ Below n₀ W (w1.setCell ⟨B, 0, none⟩ v') := by
 have hv1 : Boxed w1 B t v := hv.kept hgrow (hv.not_row hte hrow)
 refine ⟨hv1, hv1.set v', hown'.kept (grownBy_setCell' w1 B v') (.inr (hv1.not_row hte hown').symm), ?_, ?_⟩
 ·refine (h0.trans (KeepsOthers.of_grownBy hgrow fun j o ej hj => ?_)).trans (KeepsOthers.setCell _ _ _)
  rcases hrow.2 with ⟨rfl, _⟩ | ⟨g, cap, cur, rfl, _, hgb, _⟩
  ·simp [Value.ownBlock] at ej
  ·obtain rfl : g = j := by simpa [Value.ownBlock] using ej
   rw [hgb] at hj; cases hj; rfl
 ·refine (hb0.grown hgrow hn₀ fun j ej => ?_).setCell (p := ⟨B, 0, none⟩) hB v'
  rcases hrow.2 with ⟨rfl, _⟩ | ⟨g, cap, cur, rfl, hb, _, _⟩
  ·simp [Value.ownBlock] at ej
  ·obtain rfl : g = j := by simpa [Value.ownBlock] using ej
   exact hb
def RdB (w : World) (B : Nat) (A : Option Addr) (xs : List Bool) : Prop :=
 0 < xs.length → ∃ g off, A = some ⟨g, off, none⟩ ∧ g < B ∧ ∀ i x, xs[i]? = some x → w.cell? ⟨g, off + i, none⟩ = some (.bool x)
section
variable {w w' : World} {B B' : Nat} {A : Option Addr} {xs : List Bool}
theorem RdB.nil : RdB w B A [] := fun h => absurd h (by simp)
theorem RdB.keep (h : RdB w B A xs) (hk : ∀ p : Addr, p.block < B → w'.cell? p = w.cell? p) : RdB w' B A xs := fun hn => by
 obtain ⟨g, off, e, hb, hc⟩ := h hn
 exact ⟨g, off, e, hb, fun i x hx => (hk _ hb).trans (hc i x hx)⟩
theorem RdB.more (h : RdB w B A xs) (hB : B ≤ B') : RdB w B' A xs := fun hn => by
 obtain ⟨g, off, e, hb, hc⟩ := h hn
 exact ⟨g, off, e, by omega, hc⟩
theorem RdB.below (h : RdB w B A xs) (hb : Below B w w') : RdB w' B A xs := h.keep fun _ hp => hb.cell hp
theorem RdB.up (h : RdB w w.heap.size A xs) (hb : Below w.heap.size w w') : RdB w' w'.heap.size A xs := (h.below hb).more hb.size
theorem RdB.of_own {base : Nat} {e : TypeId} {c n : Nat} (h : w.ownsRow base e 1 (.slice A n c) n (xs.map Value.bool)) : RdB w w.heap.size A xs := fun hn => by
 have hl := h.1
 simp only [List.length_map, Nat.mul_one] at hl
 rcases h.2 with ⟨hv, h0⟩ | ⟨g, cap, cur, hv, _, hg, _⟩
 ·omega
 ·injection hv with hA
  subst hA
  refine ⟨g, 0, rfl, (Array.getElem?_eq_some_iff.1 hg).1, fun i x hx => ?_⟩
  have := h.cells (g := g) rfl i (.bool x) (by simp [hx])
  rw [Nat.zero_add]
  rw [← this]
  unfold Addr.add
  split
  ·rename_i h0; subst h0; rfl
  ·simp
end
def SlB (w : World) (B : Nat) (A : Option Addr) (n c : Nat) (xs : List Bool) : Prop :=
 xs.length = n ∧ n ≤ c ∧ c ≤ maxLen ∧ (A = none → n = 0 ∧ c = 0) ∧ RdB w B A xs
theorem SlB.nil (w : World) (B : Nat) : SlB w B none 0 0 [] := ⟨rfl, by omega, by simp [maxLen], fun _ => ⟨rfl, rfl⟩, RdB.nil⟩
theorem SlB.up {w w' : World} {A : Option Addr} {n c : Nat} {xs : List Bool} (h : SlB w w.heap.size A n c xs) (hb : Below w.heap.size w w') : SlB w' w'.heap.size A n c xs :=
 ⟨h.1, h.2.1, h.2.2.1, h.2.2.2.1, h.2.2.2.2.up hb⟩
theorem SlB.alloc {w : World} {A : Option Addr} {n c : Nat} {xs : List Bool} (h : SlB w w.heap.size A n c xs) (o : Obj) : SlB (w.alloc o) (w.alloc o).heap.size A n c xs := h.up ((Below.refl _ _).alloc (Nat.le_refl _) _)
theorem SlB.some_ {w : World} {B : Nat} {A : Option Addr} {n c : Nat} {xs : List Bool} (h : SlB w B A n c xs) (hn : 0 < n) : ∃ g off, A = some ⟨g, off, none⟩ ∧ g < B := by
 obtain ⟨g, off, e, hb, _⟩ := h.2.2.2.2 (by rw [h.1]; exact hn)
 exact ⟨g, off, e, hb⟩
theorem SlB.of_own {w : World} {base : Nat} {e : TypeId} {v : Value} {n : Nat} {xs : List Bool} (h : w.ownsRow base e 1 v n (xs.map Value.bool)) :
  ∃ A c, v = .slice A n c ∧ SlB w w.heap.size A n c xs := by
 have hl : xs.length = n := by have := h.1; simpa using this
 rcases h.2 with ⟨rfl, rfl⟩ | ⟨g, cap, cur, rfl, hb, hh, h1, h2, r⟩
 ·exact ⟨none, 0, rfl, by omega, by omega, by simp [maxLen], fun _ => ⟨rfl, rfl⟩, by rw [List.length_eq_zero_iff.1 hl]; exact RdB.nil⟩
 ·exact ⟨_, cap, rfl, hl, h1, h2, (fun e => by cases e), RdB.of_own h⟩
theorem SlB.of_row {w : World} {a : Addr} {len cap : Nat} {zs : List Bool} (hl : len ≤ cap) (hm : cap ≤ maxLen) (hz : zs.length = cap) (hc : ∀ i, i < zs.length → w.cell? (a.add i) = some (.bool (zs.getD i false))) :
  SlB w w.heap.size (some a) len cap (zs.take len) := by
 refine ⟨by simp; omega, hl, hm, (fun e => by cases e), fun hn => ?_⟩
 simp only [List.length_take] at hn
 obtain ⟨g, off, spot⟩ := a
 have h0 := hc 0 (by omega)
 have hs : spot = none := by simpa [Addr.add] using World.cell?_spot h0
 subst hs
 refine ⟨g, off, rfl, ?_, fun i x hx => ?_⟩
 ·have := World.block_lt_of_cell? w _ h0
  simpa [Addr.add] using this
 ·rw [List.getElem?_take] at hx
  split at hx
  ·have hi : i < zs.length := (List.getElem?_eq_some_iff.1 hx).1
   have := hc i hi
   rw [List.getD, hx] at this
   rw [← show (some x).getD false = x from rfl, ← this]
   unfold Addr.add
   split
   ·rename_i h0; subst h0; rfl
   ·rfl
  ·cases hx
def Kx (n₀ n₁ : Nat) (W W' : World) : Prop := Below n₀ W W' ∧ ∀ k, k ≠ n₀ → k < n₁ → W'.heap[k]? = W.heap[k]?
theorem Kx.cell {n₀ n₁ : Nat} {W W' : World} (h : Kx n₀ n₁ W W') {p : Addr} (hp : p.block ≠ n₀) (hl : p.block < n₁) : W'.cell? p = W.cell? p := by
 unfold World.cell?; rw [h.2 _ hp hl]
theorem Kx.refl (n₀ n₁ : Nat) (W : World) : Kx n₀ n₁ W W := ⟨Below.refl _ _, fun _ _ _ => rfl⟩
theorem Kx.trans {n₀ n₁ : Nat} {A B C : World} (h : Kx n₀ n₁ A B) (k : Kx n₀ n₁ B C) : Kx n₀ n₁ A C := ⟨h.1.trans k.1, fun j h1 h2 => (k.2 j h1 h2).trans (h.2 j h1 h2)⟩
theorem Kx.drew {n₀ n₁ : Nat} {A B : World} (h : Kx n₀ n₁ A B) : Kx n₀ n₁ A B.drew := ⟨h.1.drew, h.2⟩
theorem Kx.of_below {n₀ n₁ : Nat} {A B : World} (h : Below n₁ A B) (hn : n₀ ≤ n₁) : Kx n₀ n₁ A B := ⟨h.mono hn, fun k _ hk => h.block k hk⟩
theorem Kx.set {n₀ n₁ : Nat} {A B : World} (h : Kx n₀ n₁ A B) (i : Nat) (v : Value) : Kx n₀ n₁ A (B.setCell ⟨n₀, i, none⟩ v) :=
 ⟨h.1.setCell (p := ⟨n₀, i, none⟩) (Nat.le_refl _) v, fun k h1 h2 => (Below.heap_setCell B ⟨n₀, i, none⟩ v k h1).trans (h.2 k h1 h2)⟩
variable {F : Fence} {n : Nat} {P : Program} {Q : Exit → Act → World → Prop} {a : Act} {w : World}
theorem wpIn_label {l : Nat} (h : Q .normal a w) : (Code.label l).wpIn F n P Q a w := fun _ _ _ _ hb hr => ⟨.normal, a, w, h, .one (fenced_calm hb hr rfl) stepR_label⟩
theorem stepR_scope {b : Frame} {k : List Item} {cs : List Frame} {c : Code} : step P (lone (b.atR a (.code (.scope c) :: k)) cs w) = .next (lone (b.atR a (.code c :: .inScope c :: k)) cs w) :=
 step_lone_go (by simp [stepG, stepG.exec, Frame.atR])
theorem stepR_inScope {b : Frame} {k : List Item} {cs : List Frame} {c : Code} : step P (lone (b.atR a (.inScope c :: k)) cs w) = .next (lone (b.atR a k) cs w) :=
 step_lone_go (by simp [stepG, stepG.exec, Frame.atR])
theorem wpIn_scope {c : Code} (h : c.wpIn F n P (Exit.noGoto Q) a w) : (Code.scope c).wpIn F n P Q a w := by
 intro b k cs hro hb hr
 have h0 : (lone (b.atR a (.code (.scope c) :: k)) cs w).fenced P F := fenced_calm hb hr rfl
 obtain ⟨e, a₁, w₁, hq, harr⟩ := h b (.inScope c :: k) cs hro hb hr
 cases e with
 | normal => exact ⟨.normal, a₁, w₁, hq, .head h0 stepR_scope (StepsIn.trans harr (.one (fenced_calm hb hr rfl) stepR_inScope))⟩
 | exit id =>
  have hx : exitTo id (.inScope c :: k) = exitTo id k := by simp [exitTo]
  exact ⟨_, a₁, w₁, hq, fun k' hk => .head h0 stepR_scope (harr.1 k' (by rw [hx]; exact hk)),
   fun hr' hk => let ⟨k₁, h1, h2⟩ := harr.2 hr' (by rw [hx]; exact hk); ⟨k₁, h1, .head h0 stepR_scope h2⟩⟩
 | goto l => exact hq.elim
 | ret => exact ⟨_, a₁, w₁, hq, .of_steps (.one h0 stepR_scope) harr⟩
 | panic ch => exact ⟨_, a₁, w₁, hq, .of_steps (.one h0 stepR_scope) harr⟩
 | outgrown => exact ⟨_, a₁, w₁, hq, .of_steps (.one h0 stepR_scope) harr⟩
def readyOf (md : Region.Mode) (ops : Array Oper) (listed : Array Bool) : List Nat :=
 (List.range ops.size).filter fun i => !listed.getD i true && ((ops[i]?).map (·.after.all fun e => !Region.binds md e || listed.getD e.on false)).getD false
def ordersOf (md : Region.Mode) (ops : Array Oper) : Nat → Array Bool → List Nat → List (List Nat)
 | 0, _, acc => [acc.reverse]
 | fuel + 1, listed, acc => if (readyOf md ops listed).isEmpty then [acc.reverse] else (readyOf md ops listed).flatMap fun i => ordersOf md ops fuel (listed.setIfInBounds i true) (i :: acc)
theorem go_mem (md : Region.Mode) (ops : Array Oper) : ∀ (fuel t : Nat) (listed : Array Bool) (acc : List Nat), Region.linearise.go md ops fuel t listed acc ∈ ordersOf md ops fuel listed acc := by
 intro fuel
 induction fuel with
 | zero => intro t listed acc; simp [Region.linearise.go, ordersOf]
 | succ fuel ih =>
  intro t listed acc
  rw [Region.linearise.go, ordersOf]
  show (match (readyOf md ops listed)[t % (readyOf md ops listed).length]? with
   | some i => Region.linearise.go md ops fuel (t / (readyOf md ops listed).length) (listed.setIfInBounds i true) (i :: acc)
   | none => acc.reverse) ∈ _
  cases h : (readyOf md ops listed)[t % (readyOf md ops listed).length]? with
  | some i =>
   have hm := List.mem_of_getElem? h
   have hne : (readyOf md ops listed).isEmpty = false := by
    cases hr : readyOf md ops listed with
    | nil => rw [hr] at hm; cases hm
    | cons a b => rfl
   rw [hne]
   exact List.mem_flatMap.2 ⟨i, hm, ih _ _ _⟩
  | none =>
   have h0 := List.getElem?_eq_none_iff.1 h
   have hne : (readyOf md ops listed).isEmpty = true := by
    rw [List.isEmpty_iff]
    apply List.length_eq_zero_iff.1
    rcases Nat.eq_zero_or_pos (readyOf md ops listed).length with e | e
    ·exact e
    ·have := Nat.mod_lt t e; omega
   rw [hne]
   simp
def opsAt (ops : Array Oper) (l : List Nat) : List Oper := l.filterMap (ops[·]?)
theorem opsAt_nil (ops : Array Oper) : opsAt ops [] = [] := rfl
theorem opsAt_cons (ops : Array Oper) (i : Nat) (l : List Nat) : opsAt ops (i :: l) = (ops[i]?).toList ++ opsAt ops l := by
 unfold opsAt
 rw [List.filterMap_cons]
 cases ops[i]? <;> rfl
section
variable {F : Fence} {n : Nat} {P : Program} {ops : Array Oper} {Q : Exit → Act → World → Prop}
theorem wpOpsIn_of (l : List Nat) : ∀ (a : Act) (w : World), wpListIn F n P ops Q (opsAt ops l) a w → wpOpsIn F n P ops Q l a w := by
 induction l with
 | nil => intro a w h; exact h
 | cons i l ih =>
  intro a w h
  rw [wpOpsIn]
  cases ho : ops[i]? with
  | none => simp only [opsAt, List.filterMap_cons, ho] at h; exact ih a w h
  | some o =>
   simp only [opsAt, List.filterMap_cons, ho, wpListIn] at h
   dsimp only
   split
   ·rename_i hw
    rw [if_pos hw] at h
    exact Oper.wpIn_mono (fun a' w' h' => ih a' w' h') h
   ·rename_i hw
    rw [if_neg hw] at h
    exact ⟨h.1, ih _ _ h.2⟩
theorem wpIn_region_orders {id : Nat} {a : Act} {w : World} {l : List Oper} (hm : P.follows .mixedOrders = true) (is : List (List Nat)) (hall : ordersOf .any l.toArray l.length (Array.replicate l.length false) [] = is)
  (h : ∀ x ∈ is, wpListIn F n P l.toArray Q (opsAt l.toArray x) a w.drew) : (Code.region id l.toArray true).wpIn F n P Q a w :=
 wpIn_region_draw fun t => by
  simp only [Region.schedule, hm, Bool.true_or, if_true, Region.linearise]
  refine wpOpsIn_of _ _ _ (h _ ?_)
  rw [← hall]
  have := go_mem .any l.toArray l.toArray.size t (Array.replicate l.toArray.size false) []
  simpa using this
theorem wpIn_region_two {id : Nat} {a : Act} {w : World} {l : List Oper} (hm : P.follows .mixedOrders = true) (i1 i2 : List Nat) (hall : ordersOf .any l.toArray l.length (Array.replicate l.length false) [] = [i1, i2])
  (h1 : wpListIn F n P l.toArray Q (opsAt l.toArray i1) a w.drew) (h2 : wpListIn F n P l.toArray Q (opsAt l.toArray i2) a w.drew) : (Code.region id l.toArray true).wpIn F n P Q a w :=
 wpIn_region_orders hm _ hall (by intro x hx; simp at hx; rcases hx with rfl | rfl <;> assumption)
end
section
variable {P : Program} {ops : Array Oper} {Q : Exit → Act → World → Prop} {md : Region.Mode} {n r : Nat}
def noDefer (o : Oper) : Bool := match o.op with
 | .defer _ => false
 | _ => true
theorem noDefer_ne {o : Oper} (h : noDefer o = true) : ∀ c, o.op ≠ .defer c := by
 intro c e
 rw [noDefer, e] at h
 cases h
theorem rowsIn_of {row : String} {args : Array Value} {w : World} {R : Value → World → Prop} (h : Rows P row args w R) : RowsIn (Fence.wide.inRound r) n P row args w R :=
 fun c cs _ => let ⟨v, w', hr, hs⟩ := h c cs; ⟨v, w', hr, stepsIn_wide.2 hs⟩
theorem wpIn_of_wp {o : Oper} {a : Act} {w : World} {K : Act → World → Prop} (hd : noDefer o = true) (h : o.wp P a w K Q) : o.wpIn (Fence.wide.inRound r) n P a w K Q := by
 unfold Oper.wp at h
 unfold Oper.wpIn
 refine ⟨fun _ _ => trivial, ?_⟩
 rw [Oper.semAt_eq _ _ _ (noDefer_ne hd)]
 generalize (execOp a.eval o).run P w = res at *
 cases res with
 | ok x w' =>
  cases x <;> simp only [Oper.upon, Oper.uponIn] at h ⊢ <;>
   first
    | exact h
    | exact ⟨fun hh => by simp [Fence.wide, Fence.inRound] at hh, CallsIn.inRound r (callsIn_wide.2 h)⟩
    | exact ⟨fun hh => by simp [Fence.wide, Fence.inRound] at hh, rowsIn_of h⟩
    | exact h.elim
 | halt x w' => cases x <;> simp only [Oper.upon, Oper.uponIn] at h ⊢ <;> exact h
theorem wpAnyIn_of_wpAny (hd : ∀ (i : Nat) o, ops[i]? = some o → noDefer o = true) (hl : ¬ LetsOut Q) : ∀ (fuel : Nat) (listed : Array Bool) (a : Act) (w : World), wpAny P md ops Q fuel listed a w → wpAnyIn (Fence.wide.inRound r) n P md ops Q fuel listed a w
 | 0, _, _, _, h => h
 | fuel + 1, _, _, _, h => ⟨h.1, fun i hi => by
  have hi' := h.2 i hi
  unfold wpOp at hi'
  unfold wpOpIn
  cases ho : ops[i]? with
  | none => simp only [ho] at hi' ⊢; exact wpAnyIn_of_wpAny hd hl fuel _ _ _ hi'
  | some o =>
   simp only [ho] at hi' ⊢
   split
   ·rename_i hw
    simp only [hw, if_true] at hi'
    exact wpIn_of_wp (hd i o ho) (Oper.wp_mono (fun a' w' h' => wpAnyIn_of_wpAny hd hl fuel _ _ _ h') (hi'.resolve_right fun x => hl x.2))
   ·rename_i hw
    simp only [hw] at hi'
    exact ⟨fun _ _ => trivial, wpAnyIn_of_wpAny hd hl fuel _ _ _ hi'⟩⟩
theorem allNoDefer {l : List Oper} (h : l.all noDefer = true) : ∀ (i : Nat) o, l.toArray[i]? = some o → noDefer o = true := by
 intro i o ho
 exact List.all_eq_true.1 h o (List.mem_of_getElem? (by simpa using ho))
theorem round_region_held {id : Nat} {a : Act} {w : World} {l : List Oper} (S : World → Prop) (hm : P.follows .mixedOrders = true) (hd : l.all noDefer = true) (hl : ¬ LetsOut Q)
  (h : wpAnyH P .any l.toArray Q S l.length (Array.replicate l.length false) a w.drew) : (Code.region id l.toArray true).wpIn (Fence.wide.inRound r) n P Q a w :=
 wpIn_region_any hm (wpAnyIn_of_wpAny (allNoDefer hd) hl _ _ _ _ (wpAny_of_held _ _ _ _ (by simpa using h)))
theorem ownPostG_notOut {α : Type} {B : Nat} {Kp : World → World → Prop} {I : List α → World → Prop} {Ix : Code → List α → World → Prop} {xs : List α} {W : World} (id : Nat) : ¬ LetsOut (Exit.inBlock id (ownPostG B Kp I Ix xs W)) := by
 rintro ⟨a, w, h⟩
 exact h
end
section
variable {F : Fence} {n : Nat} {P : Program}
def SeqW (F : Fence) (n : Nat) (P : Program) (gf : Nat) (lb : Array Value) (encs : Nat → Array Value) (Kp Ab : World → World → Prop) (L T S Sp : Nat → Prop) (w : World) : Prop :=
 ∀ (l : Nat) (J Jx : Nat → World → Prop) (W : World), Below w.heap.size w W → (∀ s X X', Ab X X' → J s X → J s X') → (∀ s X X', Ab X X' → Jx s X → Jx s X') → (∀ s X, J s X → L s) →
  (∀ k X, T k → J k X → YieldAt F (n - 1) P l (encs k) X fun e X' =>
   (e = .returned (.bool true) ∧ J (k + 1) X' ∧ Kp X X') ∨ (e = .returned (.bool false) ∧ Jx (k + 1) X')) →
  J 0 W →
  CallsIn F n P gf (#[.func (.yield l) #[] #[]] ++ lb) W fun e W' => (∃ v, e = .returned v) ∧ ((∃ k, S k ∧ J k W') ∨ (∃ k, Sp k ∧ Jx k W'))
def postW (B : Nat) (Kp : World → World → Prop) (I : Nat → World → Prop) (Ix : Code → Nat → World → Prop) (k : Nat) (W : World) : Exit → Act → World → Prop
 | .normal, _, W' => KeepsFrom B W W' ∧ Kp W W' ∧ I k W'
 | .ret, _, W' => KeepsFrom B W W' ∧ Ix .ret k W'
 | .exit id, _, W' => KeepsFrom B W W' ∧ Ix (.exit id) k W'
 | .goto t, _, W' => KeepsFrom B W W' ∧ Ix (.goto t) k W'
 | .panic _, _, _ => False
 | .outgrown, _, _ => False
theorem wpIn_range_w {g : Operand} {ps : Array Tmp} {assign body : Code} {Q : Exit → Act → World → Prop} {a : Act} {w : World}
  (hro : F.round = none) (h1 : 1 ≤ n) {gf : Nat} {lb : Array Value} (hg : a.eval g = .func (.func gf) #[] lb) (hFg : F.fn gf) (eg : ∀ args w, (callFunc gf args).run P w = .ok (.enter gf args) w)
  {encs : Nat → Array Value} {Kp Ab : World → World → Prop} {L T S Sp : Nat → Prop} (hseq : SeqW F (n - 1) P gf lb encs Kp Ab L T S Sp w)
  (hKt : ∀ {A B C : World}, Kp A B → Kp B C → Kp A C) (hKb : ∀ (W : World) (l : Nat) (o o' : Obj), w.heap.size ≤ l → W.heap[l]? = some o → o.isCells = false → o.isWalk = false → Kp W (W.putObj l o'))
  (hAb : ∀ X X', Ab X X' → ∀ (k : Nat) (o : Obj), w.heap.size ≤ k → X.heap[k]? = some o → o.isCells = false → X'.heap[k]? = some o) (hps : ∀ x, (encs x).size = ps.size)
  (I : Nat → World → Prop) (Ix : Code → Nat → World → Prop) (hI : OwnFrom w.heap.size I) (hIx : ∀ c, OwnFrom w.heap.size (Ix c)) (hIa : ∀ s X X', Ab X X' → I s X → I s X') (hIxa : ∀ c s X X', Ab X X' → Ix c s X → Ix c s X') (hL : ∀ s X, I s X → L s) (h0 : I 0 w) (a₁ : Nat → Act)
  (hassign : ∀ (l : Nat) (x : Nat) (W : World) (K : Act → World → Prop), K (a₁ x) W →
   assign.wpIn (F.inRound l) (n - 1 - 1) P (Exit.then K (fun _ _ _ => False)) { tmps := (ps.zip (encs x)).foldl (fun t (p, v) => t.setIfInBounds p v) a.tmps, defers := [] } W)
  (hbody : ∀ (l : Nat) (k : Nat) (W : World), w.heap.size ≤ l → (∃ r, W.heap[l]? = some (.loop r)) → T k → I k W → body.wpIn (F.inRound l) (n - 1 - 1) P (postW w.heap.size Kp I Ix (k + 1) W) (a₁ k) W)
  (hdone : ∀ (D : Nat) (k : Nat) (W : World), w.heap.size ≤ D → S k → I k W → W.heap[D]? = some (.deferred (some [])) → Q .normal { a with defers := { target := .collected D, args := #[] } :: a.defers } W)
  (hstop : ∀ (D : Nat) (c : Code) (k : Nat) (W : World), w.heap.size ≤ D → Sp k → Ix c k W → W.heap[D]? = some (.deferred (some [])) → c.wpIn F n P Q { a with defers := { target := .collected D, args := #[] } :: a.defers } W) :
  (Code.rangeFunc g ps assign body).wpIn F n P Q a w := by
 refine wpIn_rangeFunc ?_
 intro fn hfn
 rw [hro]
 obtain ⟨rc, hrc⟩ : ∃ rc : LoopState → Option Code → Loop, rc = fun st pe => { state := st, pending := pe, fn, tmps := a.tmps, params := ps, assign, body, defers := w.heap.size } := ⟨_, rfl⟩
 obtain ⟨V, hV⟩ : ∃ V, (w.alloc (.deferred (some []))).alloc (.loop (rc .ready none)) = V := ⟨_, rfl⟩
 have hLV : V.heap[w.heap.size + 1]? = some (.loop (rc .ready none)) := by
  have := World.alloc_heap_new (w.alloc (.deferred (some []))) (.loop (rc .ready none)); rw [World.size_alloc] at this; rw [← hV]; exact this
 have hKV : V.heap[w.heap.size]? = some (.deferred (some [])) := by rw [← hV]; exact (Below.heap_alloc _ _ _ (by simp)).trans (World.alloc_heap_new w _)
 have hIV : I 0 V := by rw [← hV]; exact hI.alloc _ (hI.alloc _ h0)
 have hBV : Below w.heap.size w V := by rw [← hV]; exact ((Below.refl _ w).alloc (Nat.le_refl _) _).alloc (by simp) _
 refine ⟨w.heap.size + 1, [{ target := .collected w.heap.size, args := #[] }], V, { target := .fn (.func gf) lb, args := #[.func (.yield (w.heap.size + 1)) #[] #[]] }, V, gf,
  #[.func (.yield (w.heap.size + 1)) #[] #[]] ++ lb, V, by rw [← hV, hrc]; exact run_enterLoop_outer _ _ _ _ _, by simp only [resolve, hg]; simp [go_sem], fun f' hf' => by simp [Target.leads] at hf'; subst hf'; exact hFg, by simp [invoke, go_sem, eg], fun _ => h1, ?_⟩
 refine (hseq (w.heap.size + 1)
  (fun pre W => I pre W ∧ W.heap[w.heap.size + 1]? = some (.loop (rc .ready none)) ∧ W.heap[w.heap.size]? = some (.deferred (some [])))
  (fun pre W => ∃ c, Ix c pre W ∧ W.heap[w.heap.size + 1]? = some (.loop (rc .done (some c))) ∧ W.heap[w.heap.size]? = some (.deferred (some [])))
  V hBV (fun s X X' hx hs => ⟨hIa s X X' hx hs.1, hAb X X' hx _ _ (by omega) hs.2.1 rfl, hAb X X' hx _ _ (Nat.le_refl _) hs.2.2 rfl⟩)
  (fun s X X' hx hs => by
   obtain ⟨c, hc, hl, hk⟩ := hs
   exact ⟨c, hIxa c s X X' hx hc, hAb X X' hx _ _ (by omega) hl rfl, hAb X X' hx _ _ (Nat.le_refl _) hk rfl⟩)
  (fun s X hs => hL s X hs.1) ?_ ⟨hIV, hLV, hKV⟩).mono ?_
 ·rintro k W hT ⟨hi, hl, hk⟩
  have hlt : w.heap.size + 1 < W.heap.size := (Array.getElem?_eq_some_iff.1 hl).1
  have hy := run_yield (P := P) (args := encs k) hl (by rw [hrc]; exact hps k)
  rw [hrc] at hy
  refine ⟨fn, _, assign, body, hy, roundIn_of_wpIn hfn (hassign _ k W _ ⟨_, run_beginRound hl (by rw [hrc]), ?_⟩)⟩
  obtain ⟨X, hX⟩ : ∃ X, W.putObj (w.heap.size + 1) (.loop { rc .ready none with state := .busy }) = X := ⟨_, rfl⟩
  have hl2 : X.heap[w.heap.size + 1]? = some (.loop { rc .ready none with state := .busy }) := by rw [← hX]; exact World.putObj_heap_same hlt
  have hk2 : X.heap[w.heap.size]? = some (.deferred (some [])) := by rw [← hX]; exact (World.putObj_heap_other (by omega)).trans hk
  have hw2 : Kp W X := by rw [← hX]; exact hKb _ _ _ _ (by omega) hl rfl rfl
  have hi2 : I k X := by rw [← hX]; exact hI.putObj _ hi (by omega) hl rfl
  have fin : ∀ (jump : Option Code) (Y : World), KeepsFrom w.heap.size X Y →
    (Instr.endRound (w.heap.size + 1) jump).run P Y = .ok (.bool jump.isNone) (Y.putObj (w.heap.size + 1) (.loop (rc (if jump.isNone then .ready else .done) jump))) ∧
    Y.heap[w.heap.size + 1]? = some (.loop { rc .ready none with state := .busy }) ∧
    (Y.putObj (w.heap.size + 1) (.loop (rc (if jump.isNone then .ready else .done) jump))).heap[w.heap.size + 1]? = some (.loop (rc (if jump.isNone then .ready else .done) jump)) ∧
    (Y.putObj (w.heap.size + 1) (.loop (rc (if jump.isNone then .ready else .done) jump))).heap[w.heap.size]? = some (.deferred (some [])) := fun jump Y hY => by
   have hl3 := hY.same _ _ (by omega) hl2 rfl
   have := run_endRound (P := P) jump hl3
   rw [hrc] at this ⊢
   exact ⟨this, by rw [hrc] at hl3; exact hl3, World.putObj_heap_same (Array.getElem?_eq_some_iff.1 hl3).1, (World.putObj_heap_other (by omega)).trans (hY.same _ _ (Nat.le_refl _) hk2 rfl)⟩
  have hb := hbody _ k X (by omega) ⟨_, hl2⟩ hT hi2
  rw [hX]
  refine wpIn_mono hb ?_
  rintro e a3 Y hp
  cases e with
  | normal =>
   obtain ⟨hY, hkp, hi3⟩ := hp
   obtain ⟨hr, hl3, hl4, hk4⟩ := fin none Y hY
   exact ⟨_, _, hr, .inl ⟨rfl, ⟨hI.putObj _ hi3 (by omega) hl3 rfl, hl4, hk4⟩, hKt (hKt hw2 hkp) (hKb _ _ _ _ (by omega) hl3 rfl rfl)⟩⟩
  | ret =>
   obtain ⟨hY, hix⟩ := hp
   obtain ⟨hr, hl3, hl4, hk4⟩ := fin (some .ret) Y hY
   exact ⟨_, _, hr, .inr ⟨rfl, .ret, (hIx _).putObj _ hix (by omega) hl3 rfl, hl4, hk4⟩⟩
  | exit id =>
   obtain ⟨hY, hix⟩ := hp
   obtain ⟨hr, hl3, hl4, hk4⟩ := fin (some (.exit id)) Y hY
   exact ⟨_, _, hr, .inr ⟨rfl, .exit id, (hIx _).putObj _ hix (by omega) hl3 rfl, hl4, hk4⟩⟩
  | goto t =>
   obtain ⟨hY, hix⟩ := hp
   obtain ⟨hr, hl3, hl4, hk4⟩ := fin (some (.goto t)) Y hY
   exact ⟨_, _, hr, .inr ⟨rfl, .goto t, (hIx _).putObj _ hix (by omega) hl3 rfl, hl4, hk4⟩⟩
  | panic ch => exact hp.elim
  | outgrown => exact hp.elim
 ·rintro e Y ⟨⟨v, rfl⟩, (⟨xs, hS, hi, hl, hk⟩ | ⟨pre, hSp, c, hi, hl, hk⟩)⟩
  ·exact ⟨none, _, by have := run_endLoop (P := P) hl (by rw [hrc]; simp); rw [hrc] at this; exact this, hdone _ xs _ (Nat.le_refl _) hS (hI.putObj _ hi (by omega) hl rfl) ((World.putObj_heap_other (by omega)).trans hk)⟩
  ·exact ⟨some c, _, by have := run_endLoop (P := P) hl (by rw [hrc]; simp); rw [hrc] at this; exact this, hstop _ c pre _ (Nat.le_refl _) hSp ((hIx c).putObj _ hi (by omega) hl rfl) ((World.putObj_heap_other (by omega)).trans hk)⟩
end
theorem at_append {P : Program} {ops : Array Oper} {Q : Exit → Act → World → Prop} {dst : Option Tmp} {s x : Operand} {t ty : TypeId} {pos : String} {af : Array Edge} {rest : List Oper} {a : Act} {w : World}
  (h : wpList P ops Q ({ dst := dst, op := .call { callee := .builtin .append, args := #[s, x], argTypes := #[t, t] }, type := ty, pos := pos, after := af, guard := none } :: rest) a w) :
  wpList P ops Q ({ dst := dst, op := .call { callee := .builtin .append, args := #[s, x], argTypes := #[t, t] }, type := ty, pos := pos, after := af, guard := none } :: rest) a w := h
theorem at_loadT (T : TypeId) (i : Nat) {P : Program} {ops : Array Oper} {Q : Exit → Act → World → Prop} {dst : Option Tmp} {ty : TypeId} {pos : String} {af : Array Edge} {rest : List Oper} {a : Act} {w : World} {g : Option (Tmp × Bool)}
  (h : wpList P ops Q ({ dst := dst, op := .load T (.tmp i), type := ty, pos := pos, after := af, guard := g } :: rest) a w) :
  wpList P ops Q ({ dst := dst, op := .load T (.tmp i), type := ty, pos := pos, after := af, guard := g } :: rest) a w := h
def Tab (w : World) (g : Nat) (k : IntKind) (l : List Int) : Prop := ∀ i, i < l.length → w.cell? ⟨g, i, none⟩ = some (.int k (l.getD i 0))
theorem Tab.up {w w' : World} {g : Nat} {k : IntKind} {l : List Int} (h : Tab w g k l) (hb : Below w.heap.size w w') : Tab w' g k l := fun i hi =>
 (hb.cell (p := ⟨g, i, none⟩) (World.block_lt_of_cell? w _ (h i hi))).trans (h i hi)
theorem Tab.drewN {w : World} {g : Nat} {k : IntKind} {l : List Int} (h : Tab w g k l) (n : Nat) : Tab (w.drewN n) g k l := h
theorem Tab.drew {w : World} {g : Nat} {k : IntKind} {l : List Int} (h : Tab w g k l) : Tab w.drew g k l := h
theorem Tab.alloc {w : World} {g : Nat} {k : IntKind} {l : List Int} (h : Tab w g k l) (o : Obj) : Tab (w.alloc o) g k l := h.up ((Below.refl _ _).alloc (Nat.le_refl _) _)
theorem Tab.lt {w : World} {g : Nat} {k : IntKind} {l : List Int} (h : Tab w g k l) (h0 : 0 < l.length) : g < w.heap.size := World.block_lt_of_cell? w _ (h 0 h0)
theorem rows_of_tab {H : Type} {enc : TypeId × Value → H} {P : Program} {w : World} {base : Nat} {sp : Nat → Bool} {held : Bool} {fuel : Nat} {t e : TypeId} {n m : Nat} {k : IntKind} {cs : List Value} {rows : List (List Int)} {p : List MemPlace} {fs : Array Field}
  (ht : P.underlying t = some (.array n e)) (he : P.underlying e = some (.struct fs)) (hce : P.cellsOf e = m) (hct : P.cellsOf t = n * m) (hm : fs.size = m)
  (hf : ∀ (j : Nat) (f : Field), fs[j]? = some f → f.offset = j ∧ P.underlying f.type = some (.int k) ∧ P.cellsOf f.type = 1)
  (h : DataW.trod enc P w base sp held fuel t cs = some (.agg (rows.map fun r => .agg (r.map fun z => .lit (.int k z))), p)) :
  ∀ i r j z, rows[i]? = some r → r[j]? = some z → cs[i * m + j]? = some (.int k z) := by
 intro i r j z hi hj
 cases fuel with
 | zero => simp [DataW.trod] at h
 | succ fuel =>
  simp only [DataW.trod, ht, hce, hct] at h
  split at h
  ·rename_i hl
   obtain ⟨xs, hmm, hx⟩ := Option.map_eq_some_iff.1 h
   have hxs : xs.map (·.1) = rows.map fun r => (DataW.agg (r.map fun z => .lit (.int k z)) : DataW H) := by
    have := congrArg Prod.fst hx
    simpa using this
   have hxl : xs.length = n := by simpa using Lib.mapM_length hmm
   have hin : i < n := by
    have h1 := congrArg List.length hxs
    simp at h1
    have h2 := (List.getElem?_eq_some_iff.1 hi).1
    omega
   obtain ⟨b, hb, hfb⟩ := Lib.mapM_at hmm i i (by simp [hin])
   have hb1 : b.1 = DataW.agg (r.map fun z => .lit (.int k z)) := by
    have h1 : (xs.map (·.1))[i]? = some b.1 := by simp [hb]
    rw [hxs, List.getElem?_map, hi] at h1
    exact (Option.some.inj h1).symm
   obtain ⟨ys, q, _, hbe, hyl, hlen, hat⟩ := DataW.trod_struct he hfb
   rw [hbe] at hb1
   have hys : ys.map (·.1) = r.map fun z => (DataW.lit (.int k z) : DataW H) := by simpa using hb1
   have hjl : j < fs.size := by
    have h1 := congrArg List.length hys
    simp at h1
    have h2 := (List.getElem?_eq_some_iff.1 hj).1
    try simp at hlen
    omega
   obtain ⟨o1, o2, o3⟩ := hf j fs[j] (Array.getElem?_eq_getElem hjl)
   have h3 := hat j fs[j] (Array.getElem?_eq_getElem hjl)
   have hyj : j < ys.length := by (try simp at hlen); omega
   rw [List.getElem?_eq_getElem hyj] at h3
   obtain ⟨z', hc, hy, _⟩ := DataW.trod_int o2 h3
   have h4 : (ys.map (·.1))[j]? = some (DataW.lit (.int k z') : DataW H) := by
    rw [List.getElem?_map, List.getElem?_eq_getElem hyj, hy]
    rfl
   rw [hys, List.getElem?_map, hj] at h4
   simp only [Option.map_some, Option.some.injEq, DataW.lit.injEq, Lit.int.injEq, true_and] at h4
   subst h4
   rw [o1, o3] at hc
   have h5 := congrArg (·[0]?) hc
   simp only [List.getElem?_take, List.getElem?_drop, List.getElem?_cons_zero, Nat.zero_lt_one, if_true, Nat.add_zero] at h5
   rw [if_pos (by omega)] at h5
   exact h5
  ·cases h
theorem range_of_head {P : Program} {W : World} {name : String} {k : IntKind} {rows : List (List Int)} {rest : List (String × DataW Unit)} {g : Nat} {t e : TypeId} {n m : Nat} {fs : Array Field} {d : DataW Unit} {L : List Value}
  (hg : P.globalNamed name = some g) (hty : (P.globals[g]?).map (·.type) = some t) (ht : P.underlying t = some (.array n e)) (he : P.underlying e = some (.struct fs)) (hce : P.cellsOf e = m) (hct : P.cellsOf t = n * m) (hm : fs.size = m)
  (hf : ∀ (j : Nat) (f : Field), fs[j]? = some f → f.offset = j ∧ P.underlying f.type = some (.int k) ∧ P.cellsOf f.type = 1)
  (hd : d = .agg (rows.map fun r => .agg (r.map fun z => .lit (.int k z))))
  (hL : ∀ i v, L[i]? = some v → ∃ r z, rows[i / m]? = some r ∧ r[i % m]? = some z ∧ v = .int k z)
  (h : laidMet P ((name, d) :: rest) W) : W.rangeAt g 0 L := by
 subst hd
 obtain ⟨ps, ⟨g', t', cs, fuel, p, q, hg', ht', hvar, hd, _, _⟩, _⟩ := h
 obtain rfl := Option.some.inj (hg.symm.trans hg')
 obtain rfl := Option.some.inj (hty.symm.trans ht')
 intro i v hi
 obtain ⟨r, z, h1, h2, rfl⟩ := hL i v hi
 have h3 := rows_of_tab ht he hce hct hm hf hd _ _ _ _ h1 h2
 rw [Nat.div_add_mod'] at h3
 rw [Nat.zero_add]
 have := World.var?_cell hg hvar i
 rw [this]
 simpa using h3
set_option linter.unusedVariables false
theorem lown_same {w w' : World} {base : Nat} {e : TypeId} {size n : Nat} {v : Value} {xs : List Value} (h : w.ownsRow base e size v n xs) (hb : ∀ b, v.ownBlock = some b → w'.heap[b]? = w.heap[b]?) : w'.ownsRow base e size v n xs := by
 refine ⟨h.1, ?_⟩
 rcases h.2 with h2 | ⟨g, cap, cur, hv, hg, hh, r⟩
 ·exact .inl h2
 ·exact .inr ⟨g, cap, cur, hv, hg, (hb g (by rw [hv]; rfl)).trans hh, r⟩
theorem lown_up {w w' : World} {base : Nat} {e : TypeId} {size n : Nat} {v : Value} {xs : List Value} (h : w.ownsRow base e size v n xs) (hb : Below w.heap.size w w') : w'.ownsRow base e size v n xs :=
 lown_same h fun b e => hb.block b (h.lt b e).2
def RdV (w : World) (B : Nat) (A : Option Addr) (cs : List Value) : Prop :=
 0 < cs.length → ∃ g off, A = some ⟨g, off, none⟩ ∧ g < B ∧ ∀ i x, cs[i]? = some x → w.cell? ⟨g, off + i, none⟩ = some x
def SlV (w : World) (B : Nat) (A : Option Addr) (n c size : Nat) (cs : List Value) : Prop :=
 cs.length = n * size ∧ n ≤ c ∧ c ≤ maxLen ∧ (A = none → n = 0 ∧ c = 0) ∧ RdV w B A cs
theorem RdV.up {w w' : World} {A : Option Addr} {cs : List Value} (h : RdV w w.heap.size A cs) (hb : Below w.heap.size w w') : RdV w' w'.heap.size A cs := fun hn => by
 obtain ⟨g, off, e, hg, hc⟩ := h hn
 exact ⟨g, off, e, Nat.lt_of_lt_of_le hg hb.size, fun i x hx => (hb.cell (p := ⟨g, off + i, none⟩) hg).trans (hc i x hx)⟩
theorem SlV.up {w w' : World} {A : Option Addr} {n c s : Nat} {cs : List Value} (h : SlV w w.heap.size A n c s cs) (hb : Below w.heap.size w w') : SlV w' w'.heap.size A n c s cs :=
 ⟨h.1, h.2.1, h.2.2.1, h.2.2.2.1, h.2.2.2.2.up hb⟩
theorem RdV.of_own {w : World} {base size : Nat} {e : TypeId} {A : Option Addr} {c n : Nat} {cs : List Value} (hs : 0 < size) (h : w.ownsRow base e size (.slice A n c) n cs) : RdV w w.heap.size A cs := fun hn => by
 have hl := h.1
 rcases h.2 with ⟨hv, h0⟩ | ⟨g, cap, cur, hv, _, hg, _⟩
 ·subst h0; omega
 ·injection hv with hA
  subst hA
  refine ⟨g, 0, rfl, (Array.getElem?_eq_some_iff.1 hg).1, fun i x hx => ?_⟩
  have := h.cells (g := g) rfl i x hx
  rw [Nat.zero_add]
  rw [← this]
  unfold Addr.add
  split
  ·rename_i h0; subst h0; rfl
  ·simp
theorem SlV.of_own {w : World} {base size : Nat} {e : TypeId} {v : Value} {n : Nat} {cs : List Value} (hs : 0 < size) (h : w.ownsRow base e size v n cs) :
  ∃ A c, v = .slice A n c ∧ SlV w w.heap.size A n c size cs := by
 have hl := h.1
 rcases h.2 with ⟨rfl, rfl⟩ | ⟨g, cap, cur, rfl, hb, hh, h1, h2, r⟩
 ·exact ⟨none, 0, rfl, hl, Nat.le_refl _, by simp [maxLen], fun _ => ⟨rfl, rfl⟩, by rw [List.length_eq_zero_iff.1 (hl.trans (Nat.zero_mul _))]; exact fun h => absurd h (by simp)⟩
 ·exact ⟨_, cap, rfl, hl, h1, h2, (fun e => by cases e), RdV.of_own hs h⟩
theorem news_v {w : World} {B : Nat} {a : Addr} {cs : List Value} (h : RdV w B (some a) cs) : ∀ j u, cs[j]? = some u → w.cell? (a.add j) = some u := by
 intro j u hu
 obtain ⟨g, off, e, _, hc⟩ := h (by have := (List.getElem?_eq_some_iff.1 hu).1; omega)
 injection e with e
 subst e
 rw [← hc j u hu]
 unfold Addr.add
 split
 ·rename_i h0; subst h0; rfl
 ·rfl
theorem SlV.of_lit {w : World} {T : TypeId} {cs : Array Value} {n size : Nat} {xs : List Value} (h : cs.toList = xs) (hn : xs.length = n * size) (hm : n ≤ 1000000) :
  SlV (w.alloc (.cells cs T)) (w.alloc (.cells cs T)).heap.size (some ⟨w.heap.size, 0, none⟩) n n size xs :=
 ⟨hn, Nat.le_refl _, by unfold maxLen; omega, (fun e => by cases e), fun _ => ⟨_, 0, rfl, by simp, fun i x hx => by
  rw [Nat.zero_add, cell_of_row _ w.heap.size i cs T (0, 0) (heap_alloc_new w _), ← hx, ← h]
  simp⟩⟩
theorem wpList_load_want {P : Program} {ops : Array Oper} {rest : List Oper} {op : Oper} {a : Act} {w : World} {Q : Exit → Act → World → Prop} (hw : Region.wanted op (yielded ops a.tmps) = true) (ty : TypeId) (x : Operand) (ho : op.op = .load ty x)
  (b o : Nat) (hx : a.eval x = .pointer (some ⟨b, o, none⟩)) (cs : List Value) (d : TypeDesc) (hc : w.rangeAt b o cs)
  (hu : P.underlying ty = some d) (hd : d.isRow = true) (hi : (P.info? ty).map (·.size) = some cs.length)
  (h : wpList P ops Q rest (a.put op.dst (.agg cs.toArray)) w) : wpList P ops Q (op :: rest) a w := by
 rw [wpList, if_pos hw]
 exact .inl (wp_load_mid ty x ho b o hx cs d hc hu hd hi h)
theorem range_of_block {w : World} {b : Nat} {H : List Value} {t : TypeId} (h : w.heap[b]? = some (.cells H.toArray t (0, 0))) : w.rangeAt b 0 H := fun j v hv => by
 rw [cell_of_row w b (0 + j) _ _ _ h, Nat.zero_add]
 simpa using hv
theorem wpList_load_rowG {P : Program} {ops : Array Oper} {rest : List Oper} {op : Oper} {a : Act} {w : World} {Q : Exit → Act → World → Prop} (hw : Region.wanted op (yielded ops a.tmps) = true) (ty : TypeId) (x : Operand) (ho : op.op = .load ty x)
  (b : Nat) (hx : a.eval x = .pointer (some ⟨b, 0, none⟩)) (t : TypeId) (C : Array Value) (d : TypeDesc) (hH : Held w b t C)
  (hu : P.underlying ty = some d) (hd : d.isRow = true) (hi : (P.info? ty).map (·.size) = some C.size)
  (h : wpList P ops Q rest (a.put op.dst (.agg C)) w) : wpList P ops Q (op :: rest) a w :=
 wpList_load_want hw ty x ho b 0 hx C.toList d (range_of_block (H := C.toList) (t := t) (by rw [Array.toArray_toList]; exact hH)) hu hd (by rw [Array.length_toList]; exact hi) (by rw [Array.toArray_toList]; exact h)
theorem Held.range {W : World} {B : Nat} {t : TypeId} {cs : Array Value} (h : Held W B t cs) : W.rangeAt B 0 cs.toList := fun j v hv => by
 rw [Nat.zero_add, h.cell j]
 simpa using hv
theorem Held.there {W : World} {B : Nat} {t : TypeId} {cs : Array Value} (h : Held W B t cs) (o n : Nat) (hn : o + n ≤ cs.size) : W.there B o n := fun j hj => by
 refine ⟨?_, h.frozen _⟩
 rw [h.cell, Array.getElem?_eq_getElem (by omega)]; rfl
theorem held_splice {B : Nat} {t : TypeId} : ∀ (vs old : List Value) {W : World} (A C : List Value), vs.length = old.length → Held W B t (A ++ (old ++ C)).toArray → Held (W.setCells B A.length vs) B t (A ++ (vs ++ C)).toArray
 | [], [], W, A, C, _, h => h
 | v :: vs, u :: old, W, A, C, hl, h => by
  have h2 := h.set A.length v
  simp only [List.cons_append, zC, List.set_append_right _ _ (Nat.le_refl _), Nat.sub_self, zE] at h2
  have h3 := held_splice vs old (A ++ [v]) C (by simpa using hl) (by simpa using h2)
  simpa [World.setCells] using h3
theorem Held.whole {W : World} {B : Nat} {t : TypeId} {old cs : Array Value} (h : Held W B t old) (hs : cs.size = old.size) : Held (W.setCells B 0 cs.toList) B t cs := by
 have := held_splice (W := W) (B := B) (t := t) cs.toList old.toList [] [] (by simpa using hs) (by simpa using h)
 simpa using this
theorem size_setCells (B : Nat) : ∀ (vs : List Value) (o : Nat) (W : World), (W.setCells B o vs).heap.size = W.heap.size
 | [], _, _ => rfl
 | v :: vs, o, W => by rw [World.setCells, size_setCells B vs (o + 1) _, World.size_setCell]
def But (g : Nat) (W W' : World) : Prop := Below 0 W W' ∧ ∀ k, k ≠ g → k < W.heap.size → W'.heap[k]? = W.heap[k]?
theorem But.size {g : Nat} {W W' : World} (h : But g W W') : W.heap.size ≤ W'.heap.size := h.1.size
theorem But.refl (g : Nat) (W : World) : But g W W := ⟨Below.refl _ _, fun _ _ _ => rfl⟩
theorem But.trans {g : Nat} {A B C : World} (h : But g A B) (k : But g B C) : But g A C := ⟨h.1.trans k.1, fun j h1 h2 => (k.2 j h1 (Nat.lt_of_lt_of_le h2 h.size)).trans (h.2 j h1 h2)⟩
theorem But.of_below {g : Nat} {A B : World} (h : Below A.heap.size A B) : But g A B := ⟨h.mono (Nat.zero_le _), fun k _ hk => h.block k hk⟩
theorem But.set {g : Nat} {A B : World} (h : But g A B) (i : Nat) (v : Value) : But g A (B.setCell ⟨g, i, none⟩ v) :=
 ⟨h.1.setCell (p := ⟨g, i, none⟩) (Nat.zero_le _) v, fun k h1 h2 => (Below.heap_setCell B ⟨g, i, none⟩ v k h1).trans (h.2 k h1 h2)⟩
theorem But.sets {g : Nat} {A : World} : ∀ (vs : List Value) (o : Nat) {B : World}, But g A B → But g A (B.setCells g o vs)
 | [], _, _, h => h
 | v :: vs, o, _, h => by rw [World.setCells]; exact But.sets vs (o + 1) (h.set o v)
theorem But.held {g k : Nat} {t : TypeId} {cs : Array Value} {A B : World} (h : But g A B) (hk : k ≠ g) (hh : Held A k t cs) : Held B k t cs := (h.2 k hk hh.lt).trans hh
theorem But.below {g n : Nat} {A B : World} (h : But g A B) (hg : n ≤ g) (hA : n ≤ A.heap.size) : Below n A B := ⟨h.1.os, h.1.tape, h.1.output, h.1.size, fun k hk => h.2 k (by omega) (by omega)⟩
theorem Held.drewN {W : World} {B : Nat} {t : TypeId} {cs : Array Value} (h : Held W B t cs) (n : Nat) : Held (W.drewN n) B t cs := (below_drewN (Below.refl W.heap.size W) n).block B h.lt |>.trans h
section
variable {P : Program} {a : Act} {w w' : World} {K : Act → World → Prop} {Q : Exit → Act → World → Prop} {ops : Array Oper} {rest : List Oper}
variable {dst : Option Tmp} {t2 : TypeId} {pos : String} {after : Array Edge} {guard : Option (Nat × Bool)}
theorem wpList_val {op : Oper} (hw : Region.wanted op (yielded ops a.tmps) = true) (v : Value) (h : (execOp a.eval op).run P w = .ok (.value v) w') (hk : wpList P ops Q rest (a.put op.dst v) w') : wpList P ops Q (op :: rest) a w :=
 wpList_step fun K hK => by rw [if_pos hw]; unfold Oper.wp; rw [h]; exact hK _ _ hk
theorem wpList_skp {op : Oper} (hw : Region.wanted op (yielded ops a.tmps) = true) (h : (execOp a.eval op).run P w = .ok .skip w') (hk : wpList P ops Q rest (a.put op.dst undef) w') : wpList P ops Q (op :: rest) a w :=
 wpList_step fun K hK => by rw [if_pos hw]; unfold Oper.wp; rw [h]; exact hK _ _ hk
theorem exec_load {ρ : Operand → Value} (ty : TypeId) (x : Operand) (b o : Nat) (cs : List Value) (d : TypeDesc) (hx : ρ x = .pointer (some ⟨b, o, none⟩)) (hc : w.rangeAt b o cs)
  (hu : P.underlying ty = some d) (hd : d.isRow = true) (hi : (P.info? ty).map (·.size) = some cs.length) : (execOp ρ ⟨dst, .load ty x, t2, pos, after, guard⟩).run P w = .ok (.value (.agg cs.toArray)) w := by
 unfold execOp
 simp only [hx, Sem.run_bind, run_loadAt_mid w b o ty cs d hc hu hd hi, Result.andThen_ok, Sem.run_pure]
theorem exec_store {ρ : Operand → Value} (ty : TypeId) (x y : Operand) (b o : Nat) (cells : Array Value) (hx : ρ x = .pointer (some ⟨b, o, none⟩)) (hy : ρ y = .agg cells)
  (ht : w.there b o cells.size) (hi : (P.info? ty).map (·.size) = some cells.size) (h1 : cells.all (·.oneCell') = true) : (execOp ρ ⟨dst, .store ty x y, t2, pos, after, guard⟩).run P w = .ok .skip (w.setCells b o cells.toList) := by
 unfold execOp
 simp only [hx, hy, Sem.run_bind, run_storeAt_mid w b o ty cells ht hi h1, Result.andThen_ok, Sem.run_pure]
theorem wpList_load_at (ty : TypeId) (x : Operand) (b o : Nat) (cs : List Value) (d : TypeDesc) (hw : Region.wanted ⟨dst, .load ty x, t2, pos, after, guard⟩ (yielded ops a.tmps) = true) (hx : a.eval x = .pointer (some ⟨b, o, none⟩)) (hc : w.rangeAt b o cs)
  (hu : P.underlying ty = some d) (hd : d.isRow = true) (hi : (P.info? ty).map (·.size) = some cs.length) (hk : wpList P ops Q rest (a.put dst (.agg cs.toArray)) w) : wpList P ops Q (⟨dst, .load ty x, t2, pos, after, guard⟩ :: rest) a w :=
 wpList_val hw _ (exec_load ty x b o cs d hx hc hu hd hi) hk
theorem wpList_store_at (ty : TypeId) (x y : Operand) (b o : Nat) (cells : Array Value) (hw : Region.wanted ⟨dst, .store ty x y, t2, pos, after, guard⟩ (yielded ops a.tmps) = true) (hx : a.eval x = .pointer (some ⟨b, o, none⟩)) (hy : a.eval y = .agg cells)
  (ht : w.there b o cells.size) (hi : (P.info? ty).map (·.size) = some cells.size) (h1 : cells.all (·.oneCell') = true) (hk : wpList P ops Q rest (a.put dst undef) (w.setCells b o cells.toList)) : wpList P ops Q (⟨dst, .store ty x y, t2, pos, after, guard⟩ :: rest) a w :=
 wpList_skp hw (exec_store ty x y b o cells hx hy ht hi h1) hk
theorem wpList_store_held (ty : TypeId) (x y : Operand) (b : Nat) (t : TypeId) (old cs : Array Value) (hw : Region.wanted ⟨dst, .store ty x y, t2, pos, after, guard⟩ (yielded ops a.tmps) = true) (hx : a.eval x = .pointer (some ⟨b, 0, none⟩)) (hy : a.eval y = .agg cs)
  (h : Held w b t old) (hs : cs.size = old.size) (hi : (P.info? ty).map (·.size) = some cs.size) (h1 : cs.all (·.oneCell') = true)
  (hk : ∀ W, Held W b t cs → But b w W → W.heap.size = w.heap.size → wpList P ops Q rest (a.put dst undef) W) : wpList P ops Q (⟨dst, .store ty x y, t2, pos, after, guard⟩ :: rest) a w :=
 wpList_store_at ty x y b 0 cs hw hx hy (h.there 0 _ (by omega)) hi h1 (hk _ (h.whole hs) (But.sets _ _ (But.refl _ _)) (size_setCells _ _ _ _))
theorem wpList_load_held (ty : TypeId) (x : Operand) (b : Nat) (t : TypeId) (cs : Array Value) (d : TypeDesc) (hw : Region.wanted ⟨dst, .load ty x, t2, pos, after, guard⟩ (yielded ops a.tmps) = true) (hx : a.eval x = .pointer (some ⟨b, 0, none⟩)) (h : Held w b t cs)
  (hu : P.underlying ty = some d) (hd : d.isRow = true) (hi : (P.info? ty).map (·.size) = some cs.size) (hk : wpList P ops Q rest (a.put dst (.agg cs)) w) : wpList P ops Q (⟨dst, .load ty x, t2, pos, after, guard⟩ :: rest) a w :=
 wpList_load_at ty x b 0 cs.toList d hw hx h.range hu hd (by simpa using hi) hk
end
end Go.Proofs.YtcipleanckeoaaaDoor
