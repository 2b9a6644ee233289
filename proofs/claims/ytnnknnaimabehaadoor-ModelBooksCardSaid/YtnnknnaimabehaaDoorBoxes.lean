/- Boxes: a variable, or an array, in a block of its own, in a loop over an iterator. -/
import Derived.Test.YtnnknnaimabehaaDoorMemB
import Derived.RangeFuncNested
namespace Go.Proofs.YtnnknnaimabehaaDoor
open Go.RowKit

/-- Block B holds just these cells. -/
def Held (W : World) (B : Nat) (t : TypeId) (cs : Array Value) : Prop := W.heap[B]? = some (.cells cs t (0, 0))
section
variable {W W' : World} {B : Nat} {t : TypeId} {cs : Array Value}
theorem Held.lt (h : Held W B t cs) : B < W.heap.size := (Array.getElem?_eq_some_iff.1 h).1
theorem Held.new (W : World) (t : TypeId) (cs : Array Value) : Held (W.alloc (.cells cs t)) W.heap.size t cs := World.alloc_heap_new W _
theorem Held.kept {row : Option Nat} (h : Held W B t cs) (hg : W.grownBy W' row) (hne : some B ≠ row) : Held W' B t cs := (hg.block B h.lt hne).trans h
theorem Held.alloc (h : Held W B t cs) (o : Obj) : Held (W.alloc o) B t cs := h.kept (World.grownBy_alloc W o none) (by simp)
theorem Held.drew (h : Held W B t cs) : Held W.drew B t cs := h
theorem Held.cell (h : Held W B t cs) (i : Nat) : W.cell? ⟨B, i, none⟩ = cs[i]? := cell_of_row W B i cs t (0, 0) h
theorem Held.frozen (h : Held W B t cs) (i : Nat) : W.frozen? ⟨B, i, none⟩ = false := by
  unfold Held at h; simp [World.frozen?, h]
theorem Held.far (h : Held W B t cs) {p : Addr} (hp : B ≠ p.block) (u : Value) : Held (W.setCell p u) B t cs := (Below.heap_setCell W p u B hp).trans h
theorem Held.set (h : Held W B t cs) (i : Nat) (u : Value) : Held (W.setCell ⟨B, i, none⟩ u) B t (cs.setIfInBounds i u) := by
  unfold Held at h ⊢
  simp [World.setCell, Array.getElem?_modify, h]
theorem Held.below {n : Nat} (h : Held W B t cs) (hb : Below n W W') (hB : B < n) : Held W' B t cs := (hb.block B hB).trans h
theorem Held.not_row {e : TypeId} (h : Held W B t cs) (hte : t ≠ e) {base size k : Nat} {v : Value} {xs : List Value} (hr : W.ownsRow base e size v k xs) : some B ≠ v.ownBlock := by
  rcases hr.2 with ⟨rfl, _⟩ | ⟨g, cap, cur, rfl, _, hgb, _⟩
  · simp [Value.ownBlock]
  · intro e'
    obtain rfl : B = g := by simpa [Value.ownBlock] using e'
    have := (show W.heap[B]? = _ from h).symm.trans hgb
    simp at this
    exact hte this.2
end
/-- 'Block B holds just these cells' abides the turn of whatever is no cells. -/
theorem held_ownFrom {β : Type} {n B : Nat} {t : TypeId} {cs : Array Value} : OwnFrom n (fun (_ : β) W => Held W B t cs) := fun _ X Y row hs hg hr =>
  hs.kept hg (fun e => by
    obtain ⟨_, o, ho, hc⟩ := hr B e.symm
    rw [show X.heap[B]? = _ from hs] at ho; cases ho; cases hc)
/-- 'out = append(out, ..)' where out lies in a box, behind the append law's two words. -/
theorem boxed_appended {W w0 w1 : World} {n₀ B : Nat} {t e : TypeId} {size : Nat} {v v' : Value} {k m : Nat} {xs ys : List Value}
    (hv : Boxed w0 B t v) (hte : t ≠ e) (hrow : w0.ownsRow n₀ e size v k xs) (hn₀ : n₀ ≤ w0.heap.size) (hB : n₀ ≤ B) (h0 : KeepsOthers W w0) (hb0 : Below n₀ W w0)
    (hown' : w1.ownsRow n₀ e size v' m ys) (hgrow : w0.grownBy w1 v.ownBlock) :
    Boxed w1 B t v ∧ Boxed (w1.setCell ⟨B, 0, none⟩ v') B t v' ∧ (w1.setCell ⟨B, 0, none⟩ v').ownsRow n₀ e size v' m ys ∧ KeepsOthers W (w1.setCell ⟨B, 0, none⟩ v') ∧ Below n₀ W (w1.setCell ⟨B, 0, none⟩ v') := by
  have hv1 : Boxed w1 B t v := hv.kept hgrow (hv.not_row hte hrow)
  refine ⟨hv1, hv1.set v', hown'.kept (grownBy_setCell' w1 B v') (.inr (hv1.not_row hte hown').symm), ?_, ?_⟩
  · refine (h0.trans (KeepsOthers.of_grownBy hgrow fun j o ej hj => ?_)).trans (KeepsOthers.setCell _ _ _)
    rcases hrow.2 with ⟨rfl, _⟩ | ⟨g, cap, cur, rfl, _, hgb, _⟩
    · simp [Value.ownBlock] at ej
    · obtain rfl : g = j := by simpa [Value.ownBlock] using ej
      rw [hgb] at hj; cases hj; rfl
  · refine (hb0.grown hgrow hn₀ fun j ej => ?_).setCell (p := ⟨B, 0, none⟩) hB v'
    rcases hrow.2 with ⟨rfl, _⟩ | ⟨g, cap, cur, rfl, hb, _, _⟩
    · simp [Value.ownBlock] at ej
    · obtain rfl : g = j := by simpa [Value.ownBlock] using ej
      exact hb
end Go.Proofs.YtnnknnaimabehaaDoor
