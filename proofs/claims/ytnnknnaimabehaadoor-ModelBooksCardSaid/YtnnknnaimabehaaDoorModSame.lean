/- slices.Equal of points, and of values. -/
import Derived.Test.YtnnknnaimabehaaDoorModImg2
import Derived.Deep.QuietTactic
import Derived.BigQuiet
namespace Go.Proofs.YtnnknnaimabehaaDoor
open Go.RowKit
set_option linter.unusedVariables false
set_option maxRecDepth 100000
theorem take_next {α : Type} {xs ys : List α} {k : Nat} {x y : α} (h : xs.take k = ys.take k) (hx : xs[k]? = some x) (hy : ys[k]? = some y) (e : x = y) : xs.take (k + 1) = ys.take (k + 1) := by
  rw [List.take_add_one, List.take_add_one, h, hx, hy, e]
theorem ne_at {α : Type} {xs ys : List α} {k : Nat} {x y : α} (hx : xs[k]? = some x) (hy : ys[k]? = some y) (e : x ≠ y) : xs ≠ ys := fun h => by
  rw [h, hy] at hx
  exact e (Option.some.inj hx).symm
theorem bytes_ext {a b : ByteArray} (h : a.toList = b.toList) : a = b := by
  rw [ByteArray.toList_eq, ByteArray.toList_eq] at h
  cases a
  cases b
  simpa using h
theorem pt_in (w : World) (n : Nat) (a b a' b' : Int) : (Op.equalIn (n + 2) 42 (.agg #[.int .i64 a, .int .i64 b]) (.agg #[.int .i64 a', .int .i64 b'])).run Tryd.prog w = .ok (a == a' && b == b') w := by
  rw [run_equalIn_struct w _ _ _ _ (by kernel_rfl) (by kernel_rfl)]
  have ei := fun (d : Nat) (x y : Int) (w : World) => run_equalIn_int (P := Tryd.prog) w d 3 .i64 .i64 x y Tryd.underlying3
  simp only [Program.fieldsOf, Tryd.underlying42, Op.eqFields, part, isAgg]
  cases h1 : a == a' <;> cases h2 : b == b' <;> simp [go_sem, ei, h1, h2]
theorem pt_ne (w : World) (a b a' b' : Int) : (binOp .neq 42 (.agg #[.int .i64 a, .int .i64 b]) (.agg #[.int .i64 a', .int .i64 b'])).run Tryd.prog w = .ok (.bool (!(a == a' && b == b'))) w := by
  rw [run_neq_struct, pt_in w 9998]
  rfl
theorem pt_guard (w : World) (x y : Operand) (xs ys : Array Value) : (eqGuard .neq 42 x y (.agg xs) (.agg ys)).run Tryd.prog w = .ok () w := run_eqGuard_agg w .neq 42 x y xs ys (by kernel_rfl)
end Go.Proofs.YtnnknnaimabehaaDoor
namespace Go.Proofs.YtnnknnaimabehaaDoor
open Go.RowKit
set_option linter.unusedVariables false
set_option maxRecDepth 100000
instance blkEq : DecidableEq BlkP := fun a b => decidable_of_iff (a.id = b.id ∧ a.pts = b.pts ∧ a.vals = b.vals) (by cases a; cases b; simp)
end Go.Proofs.YtnnknnaimabehaaDoor
