/- More on slices: literals; chains of worlds. -/
import Derived.Test.YtnnknnaimabehaaDoorMem
namespace Go.Proofs.YtnnknnaimabehaaDoor
open Go.RowKit

theorem SlI.of_lit {w : World} {T : TypeId} {cs : Array Value} {k : IntKind} {n : Nat} {xs : List Int} (h : cs.toList = xs.map (Value.int k)) (hn : xs.length = n) (hm : n ≤ 1000000) :
    SlI (w.alloc (.cells cs T)) (w.alloc (.cells cs T)).heap.size k (some ⟨w.heap.size, 0, none⟩) n n xs :=
  ⟨hn, Nat.le_refl _, by unfold maxLen; omega, (fun e => by cases e), RdI.of_block (by rw [h, List.drop_zero, List.take_of_length_le (by simp)])⟩
theorem SlI.lit_at {w : World} {T : TypeId} {cs : Array Value} {k : IntKind} {n g : Nat} {xs : List Int} (hg : w.heap.size = g) (h : cs.toList = xs.map (Value.int k)) (hn : xs.length = n) (hm : n ≤ 1000000) :
    SlI (w.alloc (.cells cs T)) (w.alloc (.cells cs T)).heap.size k (some ⟨g, 0, none⟩) n n xs := by
  subst hg
  exact SlI.of_lit h hn hm
theorem SlI.drewN {w : World} {k : IntKind} {A : Option Addr} {n c : Nat} {xs : List Int} (h : SlI w w.heap.size k A n c xs) (m : Nat) : SlI (w.drewN m) (w.drewN m).heap.size k A n c xs := h
theorem SlI.alloc {w : World} {k : IntKind} {A : Option Addr} {n c : Nat} {xs : List Int} (h : SlI w w.heap.size k A n c xs) (o : Obj) : SlI (w.alloc o) (w.alloc o).heap.size k A n c xs := h.up ((Below.refl _ _).alloc (Nat.le_refl _) _)
theorem below_drewN {B : Nat} {a w : World} (h : Below B a w) (n : Nat) : Below B a (w.drewN n) := ⟨h.os, h.tape, h.output, h.size, h.block⟩
theorem below_step {a w w' : World} (h : Below a.heap.size a w) (h' : Below w.heap.size w w') : Below a.heap.size a w' := h.trans (h'.mono h.size)
theorem below_alloc {a w : World} (h : Below a.heap.size a w) (o : Obj) : Below a.heap.size a (w.alloc o) := h.alloc h.size o
theorem SlI.take {w : World} {B : Nat} {k : IntKind} {A : Option Addr} {n c : Nat} {xs : List Int} (h : SlI w B k A n c xs) (m : Nat) (hm : m ≤ n) : SlI w B k A m c (xs.take m) :=
  ⟨by rw [List.length_take, h.1]; omega, by have := h.2.1; omega, h.2.2.1, (fun e => by have := h.2.2.2.1 e; omega), h.2.2.2.2.take m⟩
theorem SlI.drop {w : World} {B : Nat} {k : IntKind} {g off n c : Nat} {xs : List Int} (h : SlI w B k (some ⟨g, off, none⟩) n c xs) (m : Nat) (hm : m ≤ n) : SlI w B k (some ⟨g, off + m, none⟩) (n - m) (c - m) (xs.drop m) :=
  ⟨by rw [List.length_drop, h.1], by have := h.2.1; omega, by have := h.2.2.1; omega, (fun e => by cases e), h.2.2.2.2.drop m _ (fun g' off' e _ => by cases e; rfl)⟩
theorem SlI.some_ {w : World} {B : Nat} {k : IntKind} {A : Option Addr} {n c : Nat} {xs : List Int} (h : SlI w B k A n c xs) (hn : 0 < n) : ∃ g off, A = some ⟨g, off, none⟩ ∧ g < B := by
  obtain ⟨g, off, e, hb, _⟩ := h.2.2.2.2 (by rw [h.1]; exact hn)
  exact ⟨g, off, e, hb⟩
end Go.Proofs.YtnnknnaimabehaaDoor
