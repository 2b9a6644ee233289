/- Two dates, two moments: '=='. -/
import Derived.Test.YtgeocjodkkkiiaaDoorCivRefOf
import Derived.Laws.StructEq
namespace Go.Proofs.YtgeocjodkkkiiaaDoor
open Go.RowKit

theorem date_in (w : World) (n : Nat) (a b c a' b' c' : Int) : (Op.equalIn (n + 2) 23 (.agg #[.int .i64 a, .int .i64 b, .int .i64 c]) (.agg #[.int .i64 a', .int .i64 b', .int .i64 c'])).run Tryd.prog w = .ok (a == a' && (b == b' && c == c')) w := by
  rw [run_equalIn_struct w _ _ _ _ (by kernel_rfl) (by kernel_rfl)]
  have ei := fun (d : Nat) (x y : Int) (w : World) => run_equalIn_int (P := Tryd.prog) w d 3 .i64 .i64 x y Tryd.underlying3
  simp only [Program.fieldsOf, Tryd.underlying23, Op.eqFields, part, isAgg]
  cases h1 : a == a' <;> cases h2 : b == b' <;> cases h4 : c == c' <;> simp [go_sem, ei, h1, h2, h4]
theorem date_eq (w : World) (a b c a' b' c' : Int) : (binOp .eql 23 (.agg #[.int .i64 a, .int .i64 b, .int .i64 c]) (.agg #[.int .i64 a', .int .i64 b', .int .i64 c'])).run Tryd.prog w = .ok (.bool (a == a' && (b == b' && c == c'))) w := by
  rw [run_eql_struct, date_in w 9998]
  rfl
theorem date_same (w : World) (a b c : Int) : (binOp .eql 23 (.agg #[.int .i64 a, .int .i64 b, .int .i64 c]) (.agg #[.int .i64 a, .int .i64 b, .int .i64 c])).run Tryd.prog w = .ok (.bool true) w := by
  rw [date_eq]; simp
theorem date_guard (w : World) (x y : Operand) (xs ys : Array Value) : (eqGuard .eql 23 x y (.agg xs) (.agg ys)).run Tryd.prog w = .ok () w := run_eqGuard_agg w .eql 23 x y xs ys (by kernel_rfl)
end Go.Proofs.YtgeocjodkkkiiaaDoor
