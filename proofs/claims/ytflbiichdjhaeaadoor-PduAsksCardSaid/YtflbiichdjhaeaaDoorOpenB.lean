/- A slice of booleans that comes in, opened. -/
import Derived.Test.YtflbiichdjhaeaaDoorBools
import Derived.Deep.Grids
namespace Go.Proofs.YtflbiichdjhaeaaDoor
open Go.ChangeShapes Go.WideShapes Go.RowKit
theorem open_bools {H : Type} {enc : TypeId × Value → H} {P : Program} {W : World} {base : Nat} {held : Bool} {t e : TypeId} {fuel : Nat} {v : Value} {x : DataW H × List MemPlace} (ht : P.underlying t = some (.slice e)) (he : P.underlying e = some .bool) (hc : P.cellsOf e = 1)
    (h : DataW.trod enc P W base (fun _ => true) held fuel t [v] = some x) : ∃ a n c xs, v = .slice a n c ∧ SlB W W.heap.size a n c xs := by
  rcases Go.Deep.open_bools ht he hc h with ⟨e1, _⟩ | ⟨a, len, cap, B, e1, _, hl, hm, _, hcell⟩
  · injection e1 with e1
    exact ⟨none, 0, 0, [], e1, SlB.nil _ _⟩
  · injection e1 with e1
    refine ⟨some a, len, cap, ((List.range cap).map B).take len, e1, SlB.of_row hl hm (by simp) fun i hi => ?_⟩
    have hi' : i < cap := by simpa using hi
    rw [hcell i hi']
    simp [List.getD, hi']
end Go.Proofs.YtflbiichdjhaeaaDoor
