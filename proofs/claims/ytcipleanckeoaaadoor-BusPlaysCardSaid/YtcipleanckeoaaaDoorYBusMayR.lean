/- Whether an act may be: the document's answer. -/
import Derived.Test.YtcipleanckeoaaaDoorYTk
import Derived.Test.YtcipleanckeoaaaDoorYBusMay
import Derived.Deep.Cut
import Derived.Lib.Hide
set_option maxRecDepth 100000
set_option maxHeartbeats 40000000
namespace Go.Proofs.YtcipleanckeoaaaDoor
open Go.RowKit
attribute [local go_sem] Oper.semAt_some
set_option linter.unusedVariables false
set_option linter.unusedSimpArgs false
theorem rregs_any (k : Int) (w : World) : Calls Tryd.prog 43 #[.int .i64 k] w fun e w' => e = .returned (.bool (regsB k)) ∧ w = w' := by
 unfold regsB
 by_cases h1 : k = 1
 ·subst h1
  go_in
  go_wp2
  go_ret
  exact ⟨rfl, rfl⟩
 have b1 : (k == 1) = false := by simp [h1]
 by_cases h4 : k = 4
 ·subst h4
  go_in
  go_wp2
  go_ret
  exact ⟨rfl, rfl⟩
 have b4 : (k == 4) = false := by simp [h4]
 by_cases h5 : k = 5
 ·subst h5
  go_in
  go_wp2
  go_ret
  exact ⟨rfl, rfl⟩
 have b5 : (k == 5) = false := by simp [h5]
 by_cases h6 : k = 6
 ·subst h6
  go_in
  go_wp2
  go_ret
  exact ⟨rfl, rfl⟩
 have b6 : (k == 6) = false := by simp [h6]
 go_in
 go_wp2
 go_ret
 exact ⟨retb (by symm; exact decide_eq_false (by omega)), rfl⟩
theorem spl {G : Prop} (p : Prop) [Decidable p] (h1 : p → decide p = true → G) (h2 : ¬ p → decide p = false → G) : G := if h : p then h1 h (decide_eq_true h) else h2 h (decide_eq_false h)
theorem spn {G : Prop} (x : Int) (h1 : x ≠ 0 → (x != 0) = true → G) (h2 : Hid (x = 0) → (x != 0) = false → G) : G := if h : x = 0 then h2 (Lib.hid h) (by simp [h]) else h1 h (by simp [h])
theorem rmay_any (v : Value) (a : ActP) (w : World) (hA : ActAt w v a) (hok : a.ok) :
  Calls Tryd.prog 11 #[v] w fun e w' => e = .returned (.bool (mayA a)) ∧ Below w.heap.size w w' := by
 obtain ⟨A, na, ca, D, nd, cd, rfl, h1, h2⟩ := hA
 have hl1 := h1.1
 have hl2 := h2.1
 obtain ⟨kind, wait, gap, regs, code, n, unit, wth, data⟩ := a
 dsimp only at hl1 hl2 h1 h2
 have hwth := hok.2.2.1
 dsimp only at hwth
 clear h1 h2 hok
 obtain ⟨w1, hw1⟩ : ∃ W, w.alloc (.cells (ActP.cells ⟨kind, wait, gap, regs, code, n, unit, wth, data⟩ A na ca D nd cd) 29) = W := ⟨_, rfl⟩
 have hb1 := zB1 hw1
 have hX := zH1 hw1
 have x0 : w1.cell? ⟨w.heap.size, 0, none⟩ = some (.int .i64 kind) := hX.cell 0
 have x1 : w1.cell? ⟨w.heap.size, 1, none⟩ = some (.int .i64 wait) := hX.cell 1
 have x2 : w1.cell? ⟨w.heap.size, 2, none⟩ = some (.int .i64 gap) := hX.cell 2
 have x3 : w1.cell? ⟨w.heap.size, 3, none⟩ = some (.slice A na ca) := hX.cell 3
 have x4 : w1.cell? ⟨w.heap.size, 4, none⟩ = some (.int .i64 code) := hX.cell 4
 have x5 : w1.cell? ⟨w.heap.size, 5, none⟩ = some (.int .i64 n) := hX.cell 5
 have x6 : w1.cell? ⟨w.heap.size, 6, none⟩ = some (.int .i64 unit) := hX.cell 6
 have x7 : w1.cell? ⟨w.heap.size, 7, none⟩ = some (.int .u8 wth) := hX.cell 7
 have x8 : w1.cell? ⟨w.heap.size, 8, none⟩ = some (.slice D nd cd) := hX.cell 8
 have hlt := hX.lt
 have FIN : Hid (∀ (q : Bool), (q = true ↔ mayQ ⟨kind, wait, gap, regs, code, n, unit, wth, data⟩) → Ending.returned (Value.bool q) = .returned (.bool (mayA ⟨kind, wait, gap, regs, code, n, unit, wth, data⟩))) := Lib.hid (fun q hq => retb (by
  unfold mayA
  by_cases h : mayQ ⟨kind, wait, gap, regs, code, n, unit, wth, data⟩
  ·rw [decide_eq_true h]; exact hq.2 h
  ·rw [decide_eq_false h]
   cases q
   ·rfl
   ·exact absurd (hq.1 rfl) h))
 have HL := Lib.hid (And.intro hl1 (And.intro hl2 hwth))
 clear hX hl1 hl2 hwth
 refine spl (kind < 1) (fun _ _ => ?_) fun _ _ => ?_
 rotate_left
 refine spl (7 < kind) (fun _ _ => ?_) fun _ _ => ?_
 rotate_left
 refine spl (wait < 0) (fun _ _ => ?_) fun _ _ => ?_
 rotate_left
 refine spl (gap < 0) (fun _ _ => ?_) fun _ _ => ?_
 rotate_left
 refine spl (1073741824 < wait) (fun _ _ => ?_) fun _ _ => ?_
 rotate_left
 refine spl (1073741824 < gap) (fun _ _ => ?_) fun _ _ => ?_
 rotate_left
 refine spl ((125 : Int) < (na : Int)) (fun _ _ => ?_) fun _ _ => ?_
 rotate_left
 refine spl ((300 : Int) < (nd : Int)) (fun _ _ => ?_) fun _ _ => ?_
 rotate_left
 refine spl (n < 0) (fun _ _ => ?_) fun _ _ => ?_
 rotate_left
 refine spl (1000 < n) (fun _ _ => ?_) fun _ _ => ?_
 rotate_left
 refine spl (unit < 0) (fun _ _ => ?_) fun _ _ => ?_
 rotate_left
 refine spl (247 < unit) (fun _ _ => ?_) fun _ _ => ?_
 rotate_left
 rcases (show kind = 1 ∨ kind = 2 ∨ kind = 3 ∨ kind = 4 ∨ kind = 5 ∨ kind = 6 ∨ kind = 7 by omega) with rfl | rfl | rfl | rfl | rfl | rfl | rfl
 ·have HRG : Hid (∀ (V : World), Calls Tryd.prog 43 #[.int .i64 1] V fun e w' => e = .returned (.bool true) ∧ V = w') := Lib.hid (fun V => rregs_any 1 V)
  refine spl ((0 : Int) < (nd : Int)) (fun _ _ => ?_) fun _ _ => ?_
  rotate_left
  refine spn unit (fun _ _ => ?_) fun Runit _ => ?_
  rotate_left
  refine spn n (fun _ _ => ?_) fun Rn _ => ?_
  rotate_left
  refine spn code (fun _ _ => ?_) fun Rcode _ => ?_
  rotate_left
  refine spl ((0 : Int) < wth) (fun _ _ => ?_) fun _ _ => ?_
  rotate_left
  ·go_in; go_wp2_with (go_at_call 43; refine (HRG.out _).mono ?_; rintro e w2 ⟨rfl, rfl⟩); go_ret; exact ⟨FIN.out true ⟨fun _ => by have hl := HL.out; have := Runit.out; have := Rn.out; have := Rcode.out; unfold mayQ; dsimp only; omega, fun _ => rfl⟩, hb1⟩
  all_goals as_aux_lemma => (go_in; go_wp2_with (go_at_call 43; refine (HRG.out _).mono ?_; rintro e w2 ⟨rfl, rfl⟩); go_ret; exact ⟨FIN.out false ⟨fun h => (by cases h), fun h => by have hl := HL.out; unfold mayQ at h; dsimp only at h; omega⟩, hb1⟩)
 ·have HRG : Hid (∀ (V : World), Calls Tryd.prog 43 #[.int .i64 2] V fun e w' => e = .returned (.bool false) ∧ V = w') := Lib.hid (fun V => rregs_any 2 V)
  refine spl ((0 : Int) < (na : Int)) (fun _ _ => ?_) fun _ _ => ?_
  rotate_left
  refine spl ((0 : Int) < (nd : Int)) (fun _ _ => ?_) fun _ _ => ?_
  rotate_left
  refine spn unit (fun _ _ => ?_) fun Runit _ => ?_
  rotate_left
  refine spn n (fun _ _ => ?_) fun Rn _ => ?_
  rotate_left
  refine spl (code < 1) (fun _ _ => ?_) fun _ _ => ?_
  rotate_left
  refine spl (11 < code) (fun _ _ => ?_) fun _ _ => ?_
  rotate_left
  refine spl ((0 : Int) < wth) (fun _ _ => ?_) fun _ _ => ?_
  rotate_left
  ·go_in; go_wp2_with (go_at_call 43; refine (HRG.out _).mono ?_; rintro e w2 ⟨rfl, rfl⟩); go_ret; exact ⟨FIN.out true ⟨fun _ => by have hl := HL.out; have := Runit.out; have := Rn.out; unfold mayQ; dsimp only; omega, fun _ => rfl⟩, hb1⟩
  all_goals as_aux_lemma => (go_in; go_wp2_with (go_at_call 43; refine (HRG.out _).mono ?_; rintro e w2 ⟨rfl, rfl⟩); go_ret; exact ⟨FIN.out false ⟨fun h => (by cases h), fun h => by have hl := HL.out; unfold mayQ at h; dsimp only at h; omega⟩, hb1⟩)
 ·have HRG : Hid (∀ (V : World), Calls Tryd.prog 43 #[.int .i64 3] V fun e w' => e = .returned (.bool false) ∧ V = w') := Lib.hid (fun V => rregs_any 3 V)
  refine spl ((0 : Int) < (na : Int)) (fun _ _ => ?_) fun _ _ => ?_
  rotate_left
  refine spl ((0 : Int) < (nd : Int)) (fun _ _ => ?_) fun _ _ => ?_
  rotate_left
  refine spn unit (fun _ _ => ?_) fun Runit _ => ?_
  rotate_left
  refine spn n (fun _ _ => ?_) fun Rn _ => ?_
  rotate_left
  refine spn code (fun _ _ => ?_) fun Rcode _ => ?_
  rotate_left
  refine spl ((0 : Int) < wth) (fun _ _ => ?_) fun _ _ => ?_
  rotate_left
  ·go_in; go_wp2_with (go_at_call 43; refine (HRG.out _).mono ?_; rintro e w2 ⟨rfl, rfl⟩); go_ret; exact ⟨FIN.out true ⟨fun _ => by have hl := HL.out; have := Runit.out; have := Rn.out; have := Rcode.out; unfold mayQ; dsimp only; omega, fun _ => rfl⟩, hb1⟩
  all_goals as_aux_lemma => (go_in; go_wp2_with (go_at_call 43; refine (HRG.out _).mono ?_; rintro e w2 ⟨rfl, rfl⟩); go_ret; exact ⟨FIN.out false ⟨fun h => (by cases h), fun h => by have hl := HL.out; unfold mayQ at h; dsimp only at h; omega⟩, hb1⟩)
 ·have HRG : Hid (∀ (V : World), Calls Tryd.prog 43 #[.int .i64 4] V fun e w' => e = .returned (.bool true) ∧ V = w') := Lib.hid (fun V => rregs_any 4 V)
  refine spl ((0 : Int) < (nd : Int)) (fun _ _ => ?_) fun _ _ => ?_
  rotate_left
  refine spn unit (fun _ _ => ?_) fun Runit _ => ?_
  rotate_left
  refine spn code (fun _ _ => ?_) fun Rcode _ => ?_
  rotate_left
  refine spl ((0 : Int) < wth) (fun _ _ => ?_) fun _ _ => ?_
  rotate_left
  ·go_in; go_wp2_with (go_at_call 43; refine (HRG.out _).mono ?_; rintro e w2 ⟨rfl, rfl⟩); go_ret; exact ⟨FIN.out true ⟨fun _ => by have hl := HL.out; have := Runit.out; have := Rcode.out; unfold mayQ; dsimp only; omega, fun _ => rfl⟩, hb1⟩
  all_goals as_aux_lemma => (go_in; go_wp2_with (go_at_call 43; refine (HRG.out _).mono ?_; rintro e w2 ⟨rfl, rfl⟩); go_ret; exact ⟨FIN.out false ⟨fun h => (by cases h), fun h => by have hl := HL.out; unfold mayQ at h; dsimp only at h; omega⟩, hb1⟩)
 ·have HRG : Hid (∀ (V : World), Calls Tryd.prog 43 #[.int .i64 5] V fun e w' => e = .returned (.bool true) ∧ V = w') := Lib.hid (fun V => rregs_any 5 V)
  refine spl ((0 : Int) < (nd : Int)) (fun _ _ => ?_) fun _ _ => ?_
  rotate_left
  refine spn unit (fun _ _ => ?_) fun Runit _ => ?_
  rotate_left
  refine spn code (fun _ _ => ?_) fun Rcode _ => ?_
  rotate_left
  refine spl ((0 : Int) < wth) (fun _ _ => ?_) fun _ _ => ?_
  ·go_in; go_wp2_with (go_at_call 43; refine (HRG.out _).mono ?_; rintro e w2 ⟨rfl, rfl⟩); go_ret; exact ⟨FIN.out true ⟨fun _ => by have hl := HL.out; have := Runit.out; have := Rcode.out; unfold mayQ; dsimp only; omega, fun _ => rfl⟩, hb1⟩
  all_goals as_aux_lemma => (go_in; go_wp2_with (go_at_call 43; refine (HRG.out _).mono ?_; rintro e w2 ⟨rfl, rfl⟩); go_ret; exact ⟨FIN.out false ⟨fun h => (by cases h), fun h => by have hl := HL.out; unfold mayQ at h; dsimp only at h; omega⟩, hb1⟩)
 ·have HRG : Hid (∀ (V : World), Calls Tryd.prog 43 #[.int .i64 6] V fun e w' => e = .returned (.bool true) ∧ V = w') := Lib.hid (fun V => rregs_any 6 V)
  refine spl ((0 : Int) < (nd : Int)) (fun _ _ => ?_) fun _ _ => ?_
  rotate_left
  refine spn n (fun _ _ => ?_) fun Rn _ => ?_
  rotate_left
  refine spn code (fun _ _ => ?_) fun Rcode _ => ?_
  rotate_left
  refine spl ((0 : Int) < wth) (fun _ _ => ?_) fun _ _ => ?_
  rotate_left
  ·go_in; go_wp2_with (go_at_call 43; refine (HRG.out _).mono ?_; rintro e w2 ⟨rfl, rfl⟩); go_ret; exact ⟨FIN.out true ⟨fun _ => by have hl := HL.out; have := Rn.out; have := Rcode.out; unfold mayQ; dsimp only; omega, fun _ => rfl⟩, hb1⟩
  all_goals as_aux_lemma => (go_in; go_wp2_with (go_at_call 43; refine (HRG.out _).mono ?_; rintro e w2 ⟨rfl, rfl⟩); go_ret; exact ⟨FIN.out false ⟨fun h => (by cases h), fun h => by have hl := HL.out; unfold mayQ at h; dsimp only at h; omega⟩, hb1⟩)
 ·have HRG : Hid (∀ (V : World), Calls Tryd.prog 43 #[.int .i64 7] V fun e w' => e = .returned (.bool false) ∧ V = w') := Lib.hid (fun V => rregs_any 7 V)
  refine spl ((0 : Int) < (na : Int)) (fun _ _ => ?_) fun _ _ => ?_
  rotate_left
  refine spn unit (fun _ _ => ?_) fun Runit _ => ?_
  rotate_left
  refine spn n (fun _ _ => ?_) fun Rn _ => ?_
  rotate_left
  refine spn code (fun _ _ => ?_) fun Rcode _ => ?_
  rotate_left
  refine spl ((0 : Int) < wth) (fun _ _ => ?_) fun _ _ => ?_
  rotate_left
  ·go_in; go_wp2_with (go_at_call 43; refine (HRG.out _).mono ?_; rintro e w2 ⟨rfl, rfl⟩); go_ret; exact ⟨FIN.out true ⟨fun _ => by have hl := HL.out; have := Runit.out; have := Rn.out; have := Rcode.out; unfold mayQ; dsimp only; omega, fun _ => rfl⟩, hb1⟩
  all_goals as_aux_lemma => (go_in; go_wp2_with (go_at_call 43; refine (HRG.out _).mono ?_; rintro e w2 ⟨rfl, rfl⟩); go_ret; exact ⟨FIN.out false ⟨fun h => (by cases h), fun h => by have hl := HL.out; unfold mayQ at h; dsimp only at h; omega⟩, hb1⟩)
 all_goals as_aux_lemma => (go_in; go_wp2_with (go_at_call 43; refine (HRG.out _).mono ?_; rintro e w2 ⟨rfl, rfl⟩); go_ret; exact ⟨FIN.out false ⟨fun h => (by cases h), fun h => by have hl := HL.out; unfold mayQ at h; dsimp only at h; omega⟩, hb1⟩)
end Go.Proofs.YtcipleanckeoaaaDoor
