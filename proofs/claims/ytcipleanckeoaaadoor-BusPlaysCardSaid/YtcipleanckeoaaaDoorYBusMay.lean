/- Acts; whether one may be: the document's answer. -/
import Derived.Test.YtcipleanckeoaaaDoorYPduBase
import Derived.Test.YtcipleanckeoaaaDoorYCommon
import Derived.Deep.Cut
set_option maxRecDepth 100000
set_option maxHeartbeats 40000000
namespace Go.Proofs.YtcipleanckeoaaaDoor
open Go.RowKit
attribute [local go_sem] Oper.semAt_some
set_option linter.unusedVariables false
set_option linter.unusedSimpArgs false
structure ActP where
 kind : Int
 wait : Int
 gap : Int
 regs : List Int
 code : Int
 n : Int
 unit : Int
 wth : Int
 data : List Int
def ActP.cells (a : ActP) (A : Option Addr) (na ca : Nat) (D : Option Addr) (nd cd : Nat) : Array Value :=
 #[.int .i64 a.kind, .int .i64 a.wait, .int .i64 a.gap, .slice A na ca, .int .i64 a.code, .int .i64 a.n, .int .i64 a.unit, .int .u8 a.wth, .slice D nd cd]
def ActAt (w : World) (v : Value) (a : ActP) : Prop := ∃ A na ca D nd cd, v = .agg (a.cells A na ca D nd cd) ∧ SlI w w.heap.size .u16 A na ca a.regs ∧ SlI w w.heap.size .u8 D nd cd a.data
theorem ActAt.up {w w' : World} {v : Value} {a : ActP} (h : ActAt w v a) (hb : Below w.heap.size w w') : ActAt w' v a := by
 obtain ⟨A, na, ca, D, nd, cd, rfl, h1, h2⟩ := h
 exact ⟨A, na, ca, D, nd, cd, rfl, h1.up hb, h2.up hb⟩
def ActP.ok (a : ActP) : Prop := (-9223372036854775808 ≤ a.wait ∧ a.wait ≤ 9223372036854775807) ∧ (-9223372036854775808 ≤ a.gap ∧ a.gap ≤ 9223372036854775807) ∧ (0 ≤ a.wth ∧ a.wth < 256) ∧ Reg16 a.regs ∧ Byte8 a.data ∧ (-9223372036854775808 ≤ a.code ∧ a.code ≤ 9223372036854775807)
def regsB (k : Int) : Bool := decide (k = 1 ∨ k = 4 ∨ k = 5 ∨ k = 6)
def mayQ (a : ActP) : Prop := (1 ≤ a.kind ∧ a.kind ≤ 7) ∧ (0 ≤ a.wait ∧ a.wait ≤ 1073741824) ∧ (0 ≤ a.gap ∧ a.gap ≤ 1073741824) ∧ a.regs.length ≤ 125 ∧ a.data.length ≤ 300 ∧ (0 ≤ a.n ∧ a.n ≤ 1000) ∧ (0 ≤ a.unit ∧ a.unit ≤ 247) ∧
 ((a.kind = 1 ∨ a.kind = 4 ∨ a.kind = 5 ∨ a.kind = 6) ∨ a.regs.length = 0) ∧ (a.kind = 7 ∨ a.data.length = 0) ∧ (a.kind = 6 ∨ a.unit = 0) ∧ (a.kind = 4 ∨ a.kind = 5 ∨ a.n = 0) ∧ (a.kind = 2 → 1 ≤ a.code ∧ a.code ≤ 11) ∧ (a.kind ≠ 2 → a.code = 0) ∧ (a.kind = 5 ↔ 0 < a.wth)
instance (a : ActP) : Decidable (mayQ a) := by unfold mayQ; infer_instance
def mayA (a : ActP) : Bool := decide (mayQ a)
end Go.Proofs.YtcipleanckeoaaaDoor
