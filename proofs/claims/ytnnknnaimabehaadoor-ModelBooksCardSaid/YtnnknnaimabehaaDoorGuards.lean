/- Guards for a walk's arms. No program in sight. -/
import Derived.WalkKit
namespace Go.Proofs.YtnnknnaimabehaaDoor
open Go.RowKit
/-- The next operation is an append. -/
theorem at_append {P : Program} {ops : Array Oper} {Q : Exit → Act → World → Prop} {dst : Option Tmp} {s x : Operand} {t ty : TypeId} {pos : String} {af : Array Edge} {rest : List Oper} {a : Act} {w : World}
    (h : wpList P ops Q ({ dst := dst, op := .call { callee := .builtin .append, args := #[s, x], argTypes := #[t, t] }, type := ty, pos := pos, after := af, guard := none } :: rest) a w) :
    wpList P ops Q ({ dst := dst, op := .call { callee := .builtin .append, args := #[s, x], argTypes := #[t, t] }, type := ty, pos := pos, after := af, guard := none } :: rest) a w := h
/-- The next operation is the load of a whole value of type T behind the pointer in slot i. -/
theorem at_loadT (T : TypeId) (i : Nat) {P : Program} {ops : Array Oper} {Q : Exit → Act → World → Prop} {dst : Option Tmp} {ty : TypeId} {pos : String} {af : Array Edge} {rest : List Oper} {a : Act} {w : World} {g : Option (Tmp × Bool)}
    (h : wpList P ops Q ({ dst := dst, op := .load T (.tmp i), type := ty, pos := pos, after := af, guard := g } :: rest) a w) :
    wpList P ops Q ({ dst := dst, op := .load T (.tmp i), type := ty, pos := pos, after := af, guard := g } :: rest) a w := h
end Go.Proofs.YtnnknnaimabehaaDoor
