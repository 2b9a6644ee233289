/- kilowattref19.at: the number in two bytes at a place. -/
import Derived.Test.YtcipleanckeoaaaDoorZPduFrom
import Derived.Test.YtcipleanckeoaaaDoorZCommon
namespace Go.Proofs.YtcipleanckeoaaaDoor
open Go.RowKit
def atP (b : List Int) (i : Nat) : Int := if i + 1 < b.length then wordP b i else -1
set_option maxHeartbeats 1000000 in
theorem at_any (A : Option Addr) (n c : Nat) (b : List Int) (i : Nat) (hi : i ≤ 1000000) (w : World) (h : SlI w w.heap.size .u8 A n c b) (hb8 : Byte8 b) :
  Calls Tryd.prog 151 #[.slice A n c, .int .i64 i] w fun e w' => e = .returned (.int .i64 (atP b i)) ∧ ∃ m, w' = w.drewN m := by
 by_cases hlt : i + 1 < n
 ·obtain ⟨g, off, x, rfl, _, hx, hc⟩ := h.2.2.2.2.at_ (i := i) (by rw [h.1]; omega)
  obtain ⟨g', off', y, e, _, hy, hc'⟩ := h.2.2.2.2.at_ (i := i + 1) (by rw [h.1]; omega)
  injection e with e
  injection e with e1 e2
  subst e1 e2
  obtain ⟨x0, x1⟩ := hb8 x (List.mem_of_getElem? hx)
  obtain ⟨y0, y1⟩ := hb8 y (List.mem_of_getElem? hy)
  have HV := Lib.hid (show atP b i = x * 256 + y by unfold atP; rw [if_pos (by rw [h.1]; exact hlt)]; simp [wordP, List.getD, hx, hy])
  have w1 : IntKind.i64.wrap x = x := by rw [IntKind.wrap_i64]; omega
  have w2 : IntKind.i64.wrap y = y := by rw [IntKind.wrap_i64]; omega
  have w3 : IntKind.i64.wrap (x * 256) = x * 256 := by rw [IntKind.wrap_i64]; omega
  have w4 : IntKind.i64.wrap (x * 256 + y) = x * 256 + y := by rw [IntKind.wrap_i64]; omega
  have w5 : IntKind.i64.wrap ((i : Int) + 1) = (i : Int) + 1 := by rw [IntKind.wrap_i64]; omega
  have z0 : 0 ≤ (i : Int) + 1 := by omega
  have z1 : ((i : Int) + 1).toNat = i + 1 := by omega
  have z2 : (i : Int) + 1 < (n : Int) := by omega
  have z3 : i < n := by omega
  clear h hx hy hb8
  go_in
  go_wp2
  go_quiet (fail)
  go_wp2
  go_ret
  exact ⟨reti HV.out.symm, _, rfl⟩
 ·have HV := Lib.hid (show atP b i = -1 by unfold atP; rw [if_neg (by rw [h.1]; exact hlt)])
  have z2 : ¬ (i : Int) + 1 < (n : Int) := by omega
  clear h
  go_in
  go_wp2
  go_ret
  exact ⟨reti HV.out.symm, 0, rfl⟩
end Go.Proofs.YtcipleanckeoaaaDoor
