/- A package-level table of integers, as the row's list tells it. -/
import Derived.Below
import Derived.WalkKit
import Derived.Deep.Draws
namespace Go.Proofs.YtnnknnaimabehaaDoor
open Go.RowKit

/-- Block g reads as the integers l. -/
def Tab (w : World) (g : Nat) (k : IntKind) (l : List Int) : Prop := ∀ i, i < l.length → w.cell? ⟨g, i, none⟩ = some (.int k (l.getD i 0))
theorem Tab.up {w w' : World} {g : Nat} {k : IntKind} {l : List Int} (h : Tab w g k l) (hb : Below w.heap.size w w') : Tab w' g k l := fun i hi =>
  (hb.cell (p := ⟨g, i, none⟩) (World.block_lt_of_cell? w _ (h i hi))).trans (h i hi)
theorem Tab.drewN {w : World} {g : Nat} {k : IntKind} {l : List Int} (h : Tab w g k l) (n : Nat) : Tab (w.drewN n) g k l := h
theorem Tab.drew {w : World} {g : Nat} {k : IntKind} {l : List Int} (h : Tab w g k l) : Tab w.drew g k l := h
theorem Tab.alloc {w : World} {g : Nat} {k : IntKind} {l : List Int} (h : Tab w g k l) (o : Obj) : Tab (w.alloc o) g k l := h.up ((Below.refl _ _).alloc (Nat.le_refl _) _)
theorem Tab.lt {w : World} {g : Nat} {k : IntKind} {l : List Int} (h : Tab w g k l) (h0 : 0 < l.length) : g < w.heap.size := World.block_lt_of_cell? w _ (h 0 h0)
theorem iv {k : IntKind} {a b : Int} (h : a = b) : Value.int k a = .int k b := by rw [h]
end Go.Proofs.YtnnknnaimabehaaDoor
