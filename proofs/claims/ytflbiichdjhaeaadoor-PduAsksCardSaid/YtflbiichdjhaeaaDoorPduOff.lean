/- Worlds that differ in one block; a struct of six cells. -/
import Derived.Test.YtflbiichdjhaeaaDoorMem
import Derived.Test.YtflbiichdjhaeaaDoorMemB
import Derived.Test.YtflbiichdjhaeaaDoorBools
import Derived.Test.YtflbiichdjhaeaaDoorBoxes
import Derived.Below
namespace Go.Proofs.YtflbiichdjhaeaaDoor
open Go.RowKit

/-- Two worlds that differ in one block at most. -/
def OffB (W W' : World) (B : Nat) : Prop := W'.heap.size = W.heap.size ∧ ∀ k, k ≠ B → W'.heap[k]? = W.heap[k]?
theorem OffB.refl (W : World) (B : Nat) : OffB W W B := ⟨rfl, fun _ _ => rfl⟩
theorem OffB.set {W W' : World} {B : Nat} (h : OffB W W' B) (i : Nat) (v : Value) : OffB W (W'.setCell ⟨B, i, none⟩ v) B :=
  ⟨(by simpa [World.setCell] using h.1), fun k hk => (Below.heap_setCell W' ⟨B, i, none⟩ v k hk).trans (h.2 k hk)⟩
theorem held_mem {W : World} {B : Nat} {t : TypeId} {cs : Array Value} (h : Held W B t cs) {i : Nat} {v : Value} (hc : W.cell? ⟨B, i, none⟩ = some v) : v ∈ cs.toList := by
  rw [h.cell i] at hc
  exact Array.mem_toList_iff.2 (Array.mem_of_getElem? hc)
theorem SlB.off {W W' : World} {B : Nat} {t : TypeId} {cs : Array Value} {A : Option Addr} {n c : Nat} {xs : List Bool} (h : SlB W W.heap.size A n c xs) (o : OffB W W' B) (hH : Held W B t cs) (hcs : ∀ v ∈ cs.toList, ∀ x, v ≠ .bool x) : SlB W' W'.heap.size A n c xs := by
  refine ⟨h.1, h.2.1, h.2.2.1, h.2.2.2.1, fun hn => ?_⟩
  obtain ⟨g, off, e, hb, hc⟩ := h.2.2.2.2 hn
  have hg : g ≠ B := by
    rintro rfl
    exact hcs _ (held_mem hH (hc 0 _ (List.getElem?_eq_getElem hn))) _ rfl
  refine ⟨g, off, e, by rw [o.1]; exact hb, fun i x hx => ?_⟩
  rw [World.cell?_of_block (o.2 g hg)]
  exact hc i x hx
theorem SlI.off {W W' : World} {B : Nat} {t : TypeId} {cs : Array Value} {k : IntKind} {A : Option Addr} {n c : Nat} {xs : List Int} (h : SlI W W.heap.size k A n c xs) (o : OffB W W' B) (hH : Held W B t cs) (hcs : ∀ v ∈ cs.toList, ∀ x, v ≠ .int k x) : SlI W' W'.heap.size k A n c xs := by
  refine ⟨h.1, h.2.1, h.2.2.1, h.2.2.2.1, fun hn => ?_⟩
  obtain ⟨g, off, e, hb, hc⟩ := h.2.2.2.2 hn
  have hg : g ≠ B := by
    rintro rfl
    exact hcs _ (held_mem hH (hc 0 _ (List.getElem?_eq_getElem hn))) _ rfl
  refine ⟨g, off, e, by rw [o.1]; exact hb, fun i x hx => ?_⟩
  rw [World.cell?_of_block (o.2 g hg)]
  exact hc i x hx
/-- A struct of six cells stored anew. -/
theorem six {w0 W : World} {B0 B : Nat} {t : TypeId} {x0 x1 x2 x3 x4 x5 : Value} (hb : Below B0 w0 W) (hO : Held W B t #[x0, x1, x2, x3, x4, x5]) (hB : B0 ≤ B) (v0 v1 v2 v3 v4 v5 : Value) :
    ∃ wz, ((((((W.setCell ⟨B, 0, none⟩ v0).setCell ⟨B, 1, none⟩ v1).setCell ⟨B, 2, none⟩ v2).setCell ⟨B, 3, none⟩ v3).setCell ⟨B, 4, none⟩ v4).setCell ⟨B, 5, none⟩ v5) = wz ∧ Below B0 w0 wz ∧ Held wz B t #[v0, v1, v2, v3, v4, v5] ∧ OffB W wz B :=
  ⟨_, rfl, ((((((hb.setCell (p := ⟨B, 0, none⟩) hB _).setCell (p := ⟨B, 1, none⟩) hB _).setCell (p := ⟨B, 2, none⟩) hB _).setCell (p := ⟨B, 3, none⟩) hB _).setCell (p := ⟨B, 4, none⟩) hB _).setCell (p := ⟨B, 5, none⟩) hB _), ((((((hO.set 0 _).set 1 _).set 2 _).set 3 _).set 4 _).set 5 _), (((((((OffB.refl W B).set 0 _).set 1 _).set 2 _).set 3 _).set 4 _).set 5 _)⟩
theorem six_cells {W : World} {B : Nat} {t : TypeId} {v0 v1 v2 v3 v4 v5 : Value} (h : Held W B t #[v0, v1, v2, v3, v4, v5]) : W.cell? ⟨B, 0, none⟩ = some v0 ∧ W.cell? ⟨B, 1, none⟩ = some v1 ∧ W.cell? ⟨B, 2, none⟩ = some v2 ∧ W.cell? ⟨B, 3, none⟩ = some v3 ∧ W.cell? ⟨B, 4, none⟩ = some v4 ∧ W.cell? ⟨B, 5, none⟩ = some v5 :=
  ⟨h.cell 0, h.cell 1, h.cell 2, h.cell 3, h.cell 4, h.cell 5⟩
theorem four_cells {W : World} {B : Nat} {t : TypeId} {v0 v1 v2 v3 : Value} (h : Held W B t #[v0, v1, v2, v3]) : W.cell? ⟨B, 0, none⟩ = some v0 ∧ W.cell? ⟨B, 1, none⟩ = some v1 ∧ W.cell? ⟨B, 2, none⟩ = some v2 ∧ W.cell? ⟨B, 3, none⟩ = some v3 :=
  ⟨h.cell 0, h.cell 1, h.cell 2, h.cell 3⟩
theorem off_six {W X : World} {B C : Nat} {t : TypeId} {v0 v1 v2 v3 v4 v5 : Value} (h : Held W B t #[v0, v1, v2, v3, v4, v5]) (o : OffB W X C) (hn : B ≠ C) : X.cell? ⟨B, 0, none⟩ = some v0 ∧ X.cell? ⟨B, 1, none⟩ = some v1 ∧ X.cell? ⟨B, 2, none⟩ = some v2 ∧ X.cell? ⟨B, 3, none⟩ = some v3 ∧ X.cell? ⟨B, 4, none⟩ = some v4 ∧ X.cell? ⟨B, 5, none⟩ = some v5 := by
  have e : ∀ i, X.cell? ⟨B, i, none⟩ = W.cell? ⟨B, i, none⟩ := fun i => World.cell?_of_block (o.2 B hn)
  rw [e, e, e, e, e, e]
  exact six_cells h
end Go.Proofs.YtflbiichdjhaeaaDoor
