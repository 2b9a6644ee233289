/- A struct in a box, read whole. No program in sight. -/
import Derived.Test.YtflbiichdjhaeaaDoorBoxes
import Derived.Deep.MidRow
import Derived.WalkKit
import Derived.ProofKit
namespace Go.Proofs.YtflbiichdjhaeaaDoor
open Go.RowKit
theorem wpList_load_want {P : Program} {ops : Array Oper} {rest : List Oper} {op : Oper} {a : Act} {w : World} {Q : Exit → Act → World → Prop} (hw : Region.wanted op (yielded ops a.tmps) = true) (ty : TypeId) (x : Operand) (ho : op.op = .load ty x)
    (b o : Nat) (hx : a.eval x = .pointer (some ⟨b, o, none⟩)) (cs : List Value) (d : TypeDesc) (hc : w.rangeAt b o cs)
    (hu : P.underlying ty = some d) (hd : d.isRow = true) (hi : (P.info? ty).map (·.size) = some cs.length)
    (h : wpList P ops Q rest (a.put op.dst (.agg cs.toArray)) w) : wpList P ops Q (op :: rest) a w := by
  rw [wpList, if_pos hw]
  exact .inl (wp_load_mid ty x ho b o hx cs d hc hu hd hi h)
theorem lt_of_block {w : World} {b : Nat} {o : Obj} (h : w.heap[b]? = some o) : b < w.heap.size := (Array.getElem?_eq_some_iff.1 h).1
theorem range_of_block {w : World} {b : Nat} {H : List Value} {t : TypeId} (h : w.heap[b]? = some (.cells H.toArray t (0, 0))) : w.rangeAt b 0 H := fun j v hv => by
  rw [cell_of_row w b (0 + j) _ _ _ h, Nat.zero_add]
  simpa using hv
theorem wpList_load_rowG {P : Program} {ops : Array Oper} {rest : List Oper} {op : Oper} {a : Act} {w : World} {Q : Exit → Act → World → Prop} (hw : Region.wanted op (yielded ops a.tmps) = true) (ty : TypeId) (x : Operand) (ho : op.op = .load ty x)
    (b : Nat) (hx : a.eval x = .pointer (some ⟨b, 0, none⟩)) (t : TypeId) (C : Array Value) (d : TypeDesc) (hH : Held w b t C)
    (hu : P.underlying ty = some d) (hd : d.isRow = true) (hi : (P.info? ty).map (·.size) = some C.size)
    (h : wpList P ops Q rest (a.put op.dst (.agg C)) w) : wpList P ops Q (op :: rest) a w :=
  wpList_load_want hw ty x ho b 0 hx C.toList d (range_of_block (H := C.toList) (t := t) (by rw [Array.toArray_toList]; exact hH)) hu hd (by rw [Array.length_toList]; exact hi) (by rw [Array.toArray_toList]; exact h)
end Go.Proofs.YtflbiichdjhaeaaDoor
