/- bus.New at a list that may not be; a script that is none. -/
import Derived.Test.YtcipleanckeoaaaDoorBusCheck
import Derived.LoopN
import Derived.Lib.Hide
import Derived.Deep.Cut
namespace Go.Proofs.YtcipleanckeoaaaDoor
open Go.RowKit
attribute [local go_sem] Oper.semAt_some
set_option linter.unusedVariables false
set_option linter.unusedSimpArgs false
set_option maxRecDepth 100000
def lineB : ActP := ⟨1, 0, 0, [], 1, 0, 0, 0, []⟩
theorem lineB_may : mayA lineB = false := by decide
theorem lineB_ok : lineB.ok := by
  unfold ActP.ok lineB
  simp [Reg16, Byte8]
theorem left_none (w : World) : Calls Tryd.prog 16 #[.pointer none] w fun e w' => e = .returned (.int .i64 0) ∧ w = w' := by
  go_in
  go_wp2_with fail
  go_ret
  exact ⟨rfl, rfl⟩
theorem next_none (A : Option Addr) (n c : Nat) (t : Int) (w : World) : Calls Tryd.prog 17 #[.pointer none, .int .i64 t, .slice A n c] w fun e w' => e = .returned (.slice none 0 0) ∧ w = w' := by
  go_in
  go_wp2_with fail
  go_ret
  exact ⟨rfl, rfl⟩
set_option maxHeartbeats 2000000 in
theorem new_bad (w : World) (hN : NamesT w) (g1 g2 c1 c2 : Nat) (hr : w.cell? ⟨g1, 0, none⟩ = some (.slice (some ⟨g2, 0, none⟩) 1 c2)) (hX : Held w g2 29 #[.int .i64 1, .int .i64 0, .int .i64 0, .slice none 0 0, .int .i64 1, .int .i64 0, .int .i64 0, .int .u8 0, .slice none 0 0]) (hg1 : g1 < w.heap.size) :
    Calls Tryd.prog 12 #[.slice (some ⟨g1, 0, none⟩) 1 c1] w fun e w' => e = .returned (.tuple #[.pointer none, .int .i64 220]) ∧ Below w.heap.size w w' := by
  obtain ⟨w1, hw1⟩ : ∃ W, w.alloc (.cells #[.slice none 0 0] 102) = W := ⟨_, rfl⟩
  have b1 : Below w.heap.size w w1 := by rw [← hw1]; exact (Below.refl _ w).alloc (Nat.le_refl _) _
  have hX1 : Held w1 g2 29 #[.int .i64 1, .int .i64 0, .int .i64 0, .slice none 0 0, .int .i64 1, .int .i64 0, .int .i64 0, .int .u8 0, .slice none 0 0] := by rw [← hw1]; exact hX.alloc _
  have hr1 : w1.cell? ⟨g1, 0, none⟩ = some (.slice (some ⟨g2, 0, none⟩) 1 c2) := (b1.cell (p := ⟨g1, 0, none⟩) hg1).trans hr
  obtain ⟨w2, hw2⟩ : ∃ W, w1.alloc (.cells #[.int .i64 1, .int .i64 0, .int .i64 0, .slice none 0 0, .int .i64 1, .int .i64 0, .int .i64 0, .int .u8 0, .slice none 0 0] 29) = W := ⟨_, rfl⟩
  have b2 : Below w.heap.size w w2 := by rw [← hw2]; exact b1.alloc b1.size _
  have hX2 : Held w2 w1.heap.size 29 #[.int .i64 1, .int .i64 0, .int .i64 0, .slice none 0 0, .int .i64 1, .int .i64 0, .int .i64 0, .int .u8 0, .slice none 0 0] := by rw [← hw2]; exact Held.new w1 _ _
  have hc := (bcheck_any (.agg #[.int .i64 1, .int .i64 0, .int .i64 0, .slice none 0 0, .int .i64 1, .int .i64 0, .int .i64 0, .int .u8 0, .slice none 0 0]) lineB w2 (hN.up b2) ⟨none, 0, 0, none, 0, 0, rfl, SlI.nil _ _ _, SlI.nil _ _ _⟩ lineB_ok)
  simp only [lineB_may, if_false, Bool.false_eq_true] at hc
  have HC := Lib.hid hc
  have HB2 := Lib.hid b2
  have x0 : w1.cell? ⟨g2, 0, none⟩ = some (.int .i64 1) := hX1.cell 0
  have x1 : w1.cell? ⟨g2, 1, none⟩ = some (.int .i64 0) := hX1.cell 1
  have x2 : w1.cell? ⟨g2, 2, none⟩ = some (.int .i64 0) := hX1.cell 2
  have x3 : w1.cell? ⟨g2, 3, none⟩ = some (.slice none 0 0) := hX1.cell 3
  have x4 : w1.cell? ⟨g2, 4, none⟩ = some (.int .i64 1) := hX1.cell 4
  have x5 : w1.cell? ⟨g2, 5, none⟩ = some (.int .i64 0) := hX1.cell 5
  have x6 : w1.cell? ⟨g2, 6, none⟩ = some (.int .i64 0) := hX1.cell 6
  have x7 : w1.cell? ⟨g2, 7, none⟩ = some (.int .u8 0) := hX1.cell 7
  have x8 : w1.cell? ⟨g2, 8, none⟩ = some (.slice none 0 0) := hX1.cell 8
  have y0 : w2.cell? ⟨w1.heap.size, 0, none⟩ = some (.int .i64 1) := hX2.cell 0
  have y1 : w2.cell? ⟨w1.heap.size, 1, none⟩ = some (.int .i64 0) := hX2.cell 1
  have y2 : w2.cell? ⟨w1.heap.size, 2, none⟩ = some (.int .i64 0) := hX2.cell 2
  have y3 : w2.cell? ⟨w1.heap.size, 3, none⟩ = some (.slice none 0 0) := hX2.cell 3
  have y4 : w2.cell? ⟨w1.heap.size, 4, none⟩ = some (.int .i64 1) := hX2.cell 4
  have y5 : w2.cell? ⟨w1.heap.size, 5, none⟩ = some (.int .i64 0) := hX2.cell 5
  have y6 : w2.cell? ⟨w1.heap.size, 6, none⟩ = some (.int .i64 0) := hX2.cell 6
  have y7 : w2.cell? ⟨w1.heap.size, 7, none⟩ = some (.int .u8 0) := hX2.cell 7
  have y8 : w2.cell? ⟨w1.heap.size, 8, none⟩ = some (.slice none 0 0) := hX2.cell 8
  have HWE1 := Lib.hid hw1
  have HWE2 := Lib.hid hw2
  clear hc b1 b2 hX1 hX2 hX hw1 hw2 hr hN
  go_in
  go_upto_region 2 with (fail)
  rw [HWE1.out]
  go_wp2_with fail
  refine wp_loop_rounds 1 ?_
  rw [rounds_succ]
  go_wp2_with fail
  refine wp_loop_rounds 1 ?_
  rw [rounds_succ]
  go_upto_region 9 with (fail)
  rw [HWE2.out]
  go_wp2_with fail
  refine HC.out.mono ?_
  rintro e w3 ⟨rfl, b3⟩
  have HB3 := Lib.hid (HB2.out.trans (b3.mono HB2.out.size))
  clear b3
  go_wp2_with fail
  go_ret2
  exact ⟨rfl, HB3.out⟩
end Go.Proofs.YtcipleanckeoaaaDoor
