/- Guards for a walk's arms. No program in sight. -/
import Derived.WalkKit
namespace Go.Proofs.Ytflbiichdjhaeaa
open Go.RowKit
/-- The next operation is an append. -/
theorem at_append {P : Program} {ops : Array Oper} {Q : Exit → Act → World → Prop} {dst : Option Tmp} {s x : Operand} {t ty : TypeId} {pos : String} {af : Array Edge} {rest : List Oper} {a : Act} {w : World}
    (h : wpList P ops Q ({ dst := dst, op := .call { callee := .builtin .append, args := #[s, x], argTypes := #[t, t] }, type := ty, pos := pos, after := af, guard := none } :: rest) a w) :
    wpList P ops Q ({ dst := dst, op := .call { callee := .builtin .append, args := #[s, x], argTypes := #[t, t] }, type := ty, pos := pos, after := af, guard := none } :: rest) a w := h
end Go.Proofs.Ytflbiichdjhaeaa
