/- bus.Check. Printed by buscheck.py. -/
import Derived.Test.YtcipleanckeoaaaDoorYTk
import Derived.Test.YtcipleanckeoaaaDoorYBusOnly
import Derived.Deep.Cut
set_option maxRecDepth 100000
set_option maxHeartbeats 40000000
namespace Go.Proofs.YtcipleanckeoaaaDoor
open Go.RowKit
attribute [local go_sem] Oper.semAt_some
set_option linter.unusedVariables false
set_option linter.unusedSimpArgs false
theorem nameB_no (k : Int) : (nameB k).toList.isEmpty = decide (¬ (1 ≤ k ∧ k ≤ 7)) := by
 by_cases h : 1 ≤ k ∧ k ≤ 7
 ·rw [decide_eq_false (fun q => q h)]
  rcases (show k = 1 ∨ k = 2 ∨ k = 3 ∨ k = 4 ∨ k = 5 ∨ k = 6 ∨ k = 7 by omega) with rfl | rfl | rfl | rfl | rfl | rfl | rfl <;> decide +kernel
 ·rw [decide_eq_true h]
  unfold nameB
  rw [if_neg h]
  decide +kernel
theorem not_of {P : Prop} (h : false = true ↔ P) : ¬ P := fun q => by cases h.2 q
theorem yes_of {P : Prop} (h : true = true ↔ P) : P := h.1 rfl
theorem may_parts (kind wait gap : Int) (regs : List Int) (code n unit wth : Int) (data : List Int) (na nd na' nd' : Nat) (oC oN oU oW : Int) (h1 : regs.length = na) (h2 : data.length = nd) (hw : 0 ≤ wth)
  (hC : (kind = 2 → oC = code) ∧ (kind ≠ 2 → oC = 0)) (hN : (kind = 4 ∨ kind = 5 → oN = n) ∧ (kind ≠ 4 ∧ kind ≠ 5 → oN = 0)) (hU : (kind = 6 → oU = unit) ∧ (kind ≠ 6 → oU = 0)) (hW : (kind = 5 → oW = wth) ∧ (kind ≠ 5 → oW = 0))
  (hR : (kind = 1 ∨ kind = 4 ∨ kind = 5 ∨ kind = 6 → na' = na) ∧ (kind ≠ 1 ∧ kind ≠ 4 ∧ kind ≠ 5 ∧ kind ≠ 6 → na' = 0)) (hD : (kind = 7 → nd' = nd) ∧ (kind ≠ 7 → nd' = 0)) :
  mayQ ⟨kind, wait, gap, regs, code, n, unit, wth, data⟩ ↔ (1 ≤ kind ∧ kind ≤ 7) ∧ (code = oC ∧ n = oN ∧ unit = oU ∧ wth = oW ∧ na = na' ∧ nd = nd') ∧ (0 ≤ wait ∧ 0 ≤ gap ∧ wait ≤ 1073741824 ∧ gap ≤ 1073741824) ∧ (na ≤ 125 ∧ nd ≤ 300 ∧ 0 ≤ n ∧ n ≤ 1000) ∧ ((kind ≠ 2 ∨ 1 ≤ code ∧ code ≤ 11) ∧ (kind ≠ 5 ∨ 0 < wth) ∧ 0 ≤ unit ∧ unit ≤ 247) := by
 unfold mayQ
 dsimp only
 rw [h1, h2]
 clear h1 h2
 by_cases hk : 1 ≤ kind ∧ kind ≤ 7
 ·rcases (show kind = 1 ∨ kind = 2 ∨ kind = 3 ∨ kind = 4 ∨ kind = 5 ∨ kind = 6 ∨ kind = 7 by omega) with rfl | rfl | rfl | rfl | rfl | rfl | rfl <;> (
   simp at hC hN hU hW hR hD
   subst hC hN hU hW hR hD
   constructor
   ·rintro ⟨_, k1, k2, k3, k4, k5, k6, k7, k8, k9, k10, k11, k12, k13⟩
    simp at k7 k8 k9 k10 k11 k12 k13
    refine ⟨by omega, ⟨by omega, by omega, by omega, by omega, by omega, by omega⟩, by omega, by omega, by omega, by omega, by omega, by omega⟩
   ·rintro ⟨_, ⟨j1, j2, j3, j4, j5, j6⟩, j7, j8, j9, j10, j11⟩
    simp at j9 j10
    refine ⟨by omega, by omega, by omega, by omega, by omega, by omega, by omega, by omega, by omega, by omega, by omega, by omega, by omega, by omega⟩)
 ·constructor
  ·intro h; exact absurd h.1 hk
  ·intro h; exact absurd h.1 hk
theorem bcheck_any (v : Value) (a : ActP) (w : World) (hT : NamesT w) (hA : ActAt w v a) (hok : a.ok) :
  Calls Tryd.prog 22 #[v] w fun e w' => e = .returned (.int .i64 (if mayA a then 0 else 220)) ∧ Below w.heap.size w w' := by
 obtain ⟨A, na, ca, D, nd, cd, rfl, h1, h2⟩ := hA
 have hl1 := h1.1
 have hl2 := h2.1
 have hwth := hok.2.2.1
 have HON := Lib.hid (fun (V : World) => only_any a A na ca D nd cd V)
 obtain ⟨w1, hw1⟩ : ∃ W, w.alloc (.cells (a.cells A na ca D nd cd) 29) = W := ⟨_, rfl⟩
 have hb1 := zB1 hw1
 have hX := zH1 hw1
 have HX := Lib.hid hX
 have HT := Lib.hid hT
 obtain ⟨kind, wait, gap, regs, code, n, unit, wth, data⟩ := a
 dsimp only at hl1 hl2 hwth
 unfold ActP.cells at hX hw1 HON ⊢
 dsimp only at hX hw1 HON ⊢
 have x0 : w1.cell? ⟨w.heap.size, 0, none⟩ = some (.int .i64 kind) := hX.cell 0
 have x1 : w1.cell? ⟨w.heap.size, 1, none⟩ = some (.int .i64 wait) := hX.cell 1
 have x2 : w1.cell? ⟨w.heap.size, 2, none⟩ = some (.int .i64 gap) := hX.cell 2
 have x3 : w1.cell? ⟨w.heap.size, 3, none⟩ = some (.slice A na ca) := hX.cell 3
 have x4 : w1.cell? ⟨w.heap.size, 4, none⟩ = some (.int .i64 code) := hX.cell 4
 have x5 : w1.cell? ⟨w.heap.size, 5, none⟩ = some (.int .i64 n) := hX.cell 5
 have x6 : w1.cell? ⟨w.heap.size, 6, none⟩ = some (.int .i64 unit) := hX.cell 6
 have x7 : w1.cell? ⟨w.heap.size, 7, none⟩ = some (.int .u8 wth) := hX.cell 7
 have x8 : w1.cell? ⟨w.heap.size, 8, none⟩ = some (.slice D nd cd) := hX.cell 8
 have hlt := hX.lt
 have HL := Lib.hid (And.intro hl1 (And.intro hl2 hwth))
 obtain ⟨er, her⟩ : ∃ er : Int, (if mayA ⟨kind, wait, gap, regs, code, n, unit, wth, data⟩ then 0 else 220) = er := ⟨_, rfl⟩
 have FIN : Hid (∀ (q : Int), ((q = 0 ∧ mayQ ⟨kind, wait, gap, regs, code, n, unit, wth, data⟩) ∨ (q = 220 ∧ ¬ mayQ ⟨kind, wait, gap, regs, code, n, unit, wth, data⟩)) → Ending.returned (Value.int .i64 q) = .returned (.int .i64 er)) := Lib.hid (fun q hq => reti (by
  rw [← her]
  unfold mayA
  rcases hq with ⟨rfl, h⟩ | ⟨rfl, h⟩
  ·rw [if_pos (decide_eq_true h)]
  ·rw [if_neg (by rw [decide_eq_false h]; decide)]))
 rw [her]
 clear hX h1 h2 hok hl1 hl2 hwth hT her
 go_in
 go_wp2_with fail
 refine (HON.out _).mono ?_
 rintro e w2 ⟨A', na', ca', oC, oN, oU, oW, D', nd', cd', rfl, hC, hN, hU, hW, hR, hD, b2⟩
 dsimp only at hC hN hU hW hR hD
 have MP := Lib.hid (may_parts kind wait gap regs code n unit wth data na nd na' nd' oC oN oU oW HL.out.1 HL.out.2.1 HL.out.2.2.1 hC hN hU hW hR hD)
 clear hC hN hU hW hR hD
 obtain ⟨w3, hw3⟩ : ∃ Y : World, w2.alloc (.cells #[.int .i64 kind, .int .i64 wait, .int .i64 gap, .slice A' na' ca', .int .i64 oC, .int .i64 oN, .int .i64 oU, .int .u8 oW, .slice D' nd' cd'] 29) = Y := ⟨_, rfl⟩
 have b3 := zB1 hw3
 have hY := zH1 hw3
 have hb3 := hb1.trans ((b2.trans (b3.mono b2.size)).mono hb1.size)
 have hX3 := HX.out.below (b2.trans (b3.mono b2.size)) hlt
 have hy := hY.lt
 have hx := hX3.lt
 clear x0 x1 x2 x3 x4 x5 x6 x7 x8
 have x0 : w3.cell? ⟨w.heap.size, 0, none⟩ = some (.int .i64 kind) := hX3.cell 0
 have x1 : w3.cell? ⟨w.heap.size, 1, none⟩ = some (.int .i64 wait) := hX3.cell 1
 have x2 : w3.cell? ⟨w.heap.size, 2, none⟩ = some (.int .i64 gap) := hX3.cell 2
 have x3 : w3.cell? ⟨w.heap.size, 3, none⟩ = some (.slice A na ca) := hX3.cell 3
 have x4 : w3.cell? ⟨w.heap.size, 4, none⟩ = some (.int .i64 code) := hX3.cell 4
 have x5 : w3.cell? ⟨w.heap.size, 5, none⟩ = some (.int .i64 n) := hX3.cell 5
 have x6 : w3.cell? ⟨w.heap.size, 6, none⟩ = some (.int .i64 unit) := hX3.cell 6
 have x7 : w3.cell? ⟨w.heap.size, 7, none⟩ = some (.int .u8 wth) := hX3.cell 7
 have x8 : w3.cell? ⟨w.heap.size, 8, none⟩ = some (.slice D nd cd) := hX3.cell 8
 obtain ⟨-, -, -, y3, y4, y5, y6, y7, y8⟩ := zC9 hY
 clear hY hX3 b2 b3
 obtain ⟨same, hsame⟩ : ∃ q : Bool, decide (code = oC ∧ n = oN ∧ unit = oU ∧ wth = oW ∧ na = na' ∧ nd = nd') = q := ⟨_, rfl⟩
 have Hsame : Hid (same = true ↔ (code = oC ∧ n = oN ∧ unit = oU ∧ wth = oW ∧ na = na' ∧ nd = nd')) := Lib.hid (by rw [← hsame]; simp only [decide_eq_true_eq])
 clear hsame
 go_upto_region 2 with fail
 go_cut [4] from 8 (fun s wx => s = .bool same ∧ wx = w3)
 case first =>
  as_aux_lemma =>
  have HL2 := HL.out
  by_cases t0 : ¬ code = oC
  ·have f : (code == oC) = false := by simp; omega
   have e : same = false := by cases q : same; rfl; exact absurd (Hsame.out.1 q) (by omega)
   subst e
   go_wp2_with fail
   go_meet
   case rel => exact ⟨rfl, rfl⟩
  have f_code : (code == oC) = true := by simp; omega
  by_cases t1 : ¬ n = oN
  ·have f : (n == oN) = false := by simp; omega
   have e : same = false := by cases q : same; rfl; exact absurd (Hsame.out.1 q) (by omega)
   subst e
   go_wp2_with fail
   go_meet
   case rel => exact ⟨rfl, rfl⟩
  have f_n : (n == oN) = true := by simp; omega
  by_cases t2 : ¬ unit = oU
  ·have f : (unit == oU) = false := by simp; omega
   have e : same = false := by cases q : same; rfl; exact absurd (Hsame.out.1 q) (by omega)
   subst e
   go_wp2_with fail
   go_meet
   case rel => exact ⟨rfl, rfl⟩
  have f_unit : (unit == oU) = true := by simp; omega
  by_cases t3 : ¬ wth = oW
  ·have f : (wth == oW) = false := by simp; omega
   have e : same = false := by cases q : same; rfl; exact absurd (Hsame.out.1 q) (by omega)
   subst e
   go_wp2_with fail
   go_meet
   case rel => exact ⟨rfl, rfl⟩
  have f_wth : (wth == oW) = true := by simp; omega
  by_cases t4 : ¬ na = na'
  ·have f : ((na : Int) == (na' : Int)) = false := by simp; omega
   have e : same = false := by cases q : same; rfl; exact absurd (Hsame.out.1 q) (by omega)
   subst e
   go_wp2_with fail
   go_meet
   case rel => exact ⟨rfl, rfl⟩
  have f_na : ((na : Int) == (na' : Int)) = true := by simp; omega
  by_cases t5 : ¬ nd = nd'
  ·have f : ((nd : Int) == (nd' : Int)) = false := by simp; omega
   have e : same = false := by cases q : same; rfl; exact absurd (Hsame.out.1 q) (by omega)
   subst e
   go_wp2_with fail
   go_meet
   case rel => exact ⟨rfl, rfl⟩
  have f_nd : ((nd : Int) == (nd' : Int)) = true := by simp; omega
  have e : same = true := Hsame.out.2 (by omega)
  subst e
  go_wp2_with fail
  go_meet
  case rel => exact ⟨rfl, rfl⟩
 case rest =>
 obtain ⟨rfl, rfl⟩ := hcut
 obtain ⟨ticks, hticks⟩ : ∃ q : Bool, decide (0 ≤ wait ∧ 0 ≤ gap ∧ wait ≤ 1073741824 ∧ gap ≤ 1073741824) = q := ⟨_, rfl⟩
 have Hticks : Hid (ticks = true ↔ (0 ≤ wait ∧ 0 ≤ gap ∧ wait ≤ 1073741824 ∧ gap ≤ 1073741824)) := Lib.hid (by rw [← hticks]; simp only [decide_eq_true_eq])
 clear hticks
 go_upto_region 3 with fail
 go_cut [5] from 8 (fun s wx => s = .bool ticks ∧ wx = wc)
 case first =>
  as_aux_lemma =>
  have HL2 := HL.out
  have K : True := trivial
  by_cases hgw : gap < wait
  ·have p1 : (gap < wait) = True := by simp; omega
   have p2 : (wait < gap) = False := by simp; omega
   have p3 : (gap ≤ wait) = True := by simp; omega
   have p4 : (wait ≤ gap) = False := by simp; omega
   by_cases t0 : gap < 0
   ·have e : ticks = false := by cases q : ticks; rfl; exact absurd (Hticks.out.1 q) (by omega)
    have f : decide (0 ≤ gap) = false := decide_eq_false (by omega)
    subst e
    clear K
    go_wp2_with fail
    go_meet
    case rel => exact ⟨rfl, rfl⟩
   have f1 : decide (0 ≤ gap) = true := decide_eq_true (by omega)
   by_cases t1 : 1073741824 < wait
   ·have e : ticks = false := by cases q : ticks; rfl; exact absurd (Hticks.out.1 q) (by omega)
    have f : decide (wait ≤ 1073741824) = false := decide_eq_false (by omega)
    subst e
    clear K
    go_wp2_with fail
    go_meet
    case rel => exact ⟨rfl, rfl⟩
   have f2 : decide (wait ≤ 1073741824) = true := decide_eq_true (by omega)
   have e : ticks = true := Hticks.out.2 (by omega)
   subst e
   clear K
   go_wp2_with fail
   go_meet
   case rel => exact ⟨rfl, rfl⟩
  by_cases hwg : wait < gap
  ·have p1 : (gap < wait) = False := by simp; omega
   have p2 : (wait < gap) = True := by simp; omega
   have p3 : (gap ≤ wait) = False := by simp; omega
   have p4 : (wait ≤ gap) = True := by simp; omega
   by_cases t0 : wait < 0
   ·have e : ticks = false := by cases q : ticks; rfl; exact absurd (Hticks.out.1 q) (by omega)
    have f : decide (0 ≤ wait) = false := decide_eq_false (by omega)
    subst e
    clear K
    go_wp2_with fail
    go_meet
    case rel => exact ⟨rfl, rfl⟩
   have f1 : decide (0 ≤ wait) = true := decide_eq_true (by omega)
   by_cases t1 : 1073741824 < gap
   ·have e : ticks = false := by cases q : ticks; rfl; exact absurd (Hticks.out.1 q) (by omega)
    have f : decide (gap ≤ 1073741824) = false := decide_eq_false (by omega)
    subst e
    clear K
    go_wp2_with fail
    go_meet
    case rel => exact ⟨rfl, rfl⟩
   have f2 : decide (gap ≤ 1073741824) = true := decide_eq_true (by omega)
   have e : ticks = true := Hticks.out.2 (by omega)
   subst e
   clear K
   go_wp2_with fail
   go_meet
   case rel => exact ⟨rfl, rfl⟩
  obtain rfl : wait = gap := by omega
  by_cases t0 : wait < 0
  ·have e : ticks = false := by cases q : ticks; rfl; exact absurd (Hticks.out.1 q) (by omega)
   have f : decide (0 ≤ wait) = false := decide_eq_false (by omega)
   subst e
   clear K
   go_wp2_with fail
   go_meet
   case rel => exact ⟨rfl, rfl⟩
  have f1 : decide (0 ≤ wait) = true := decide_eq_true (by omega)
  by_cases t1 : 1073741824 < wait
  ·have e : ticks = false := by cases q : ticks; rfl; exact absurd (Hticks.out.1 q) (by omega)
   have f : decide (wait ≤ 1073741824) = false := decide_eq_false (by omega)
   subst e
   clear K
   go_wp2_with fail
   go_meet
   case rel => exact ⟨rfl, rfl⟩
  have f2 : decide (wait ≤ 1073741824) = true := decide_eq_true (by omega)
  have e : ticks = true := Hticks.out.2 (by omega)
  subst e
  clear K
  go_wp2_with fail
  go_meet
  case rel => exact ⟨rfl, rfl⟩
 case rest =>
 obtain ⟨rfl, rfl⟩ := hcut
 obtain ⟨sizes, hsizes⟩ : ∃ q : Bool, decide (na ≤ 125 ∧ nd ≤ 300 ∧ 0 ≤ n ∧ n ≤ 1000) = q := ⟨_, rfl⟩
 have Hsizes : Hid (sizes = true ↔ (na ≤ 125 ∧ nd ≤ 300 ∧ 0 ≤ n ∧ n ≤ 1000)) := Lib.hid (by rw [← hsizes]; simp only [decide_eq_true_eq])
 clear hsizes
 go_upto_region 4 with fail
 go_cut [6] from 8 (fun s wx => s = .bool sizes ∧ wx = wc)
 case first =>
  as_aux_lemma =>
  have HL2 := HL.out
  have K : True := trivial
  by_cases t0 : 125 < na
  ·have e : sizes = false := by cases q : sizes; rfl; exact absurd (Hsizes.out.1 q) (by omega)
   have f : decide ((na : Int) ≤ 125) = false := decide_eq_false (by omega)
   subst e
   clear K
   go_wp2_with fail
   go_meet
   case rel => exact ⟨rfl, rfl⟩
  have f42640 : decide ((na : Int) ≤ 125) = true := decide_eq_true (by omega)
  by_cases t1 : 300 < nd
  ·have e : sizes = false := by cases q : sizes; rfl; exact absurd (Hsizes.out.1 q) (by omega)
   have f : decide ((nd : Int) ≤ 300) = false := decide_eq_false (by omega)
   subst e
   clear K
   go_wp2_with fail
   go_meet
   case rel => exact ⟨rfl, rfl⟩
  have f63005 : decide ((nd : Int) ≤ 300) = true := decide_eq_true (by omega)
  by_cases t2 : n < 0
  ·have e : sizes = false := by cases q : sizes; rfl; exact absurd (Hsizes.out.1 q) (by omega)
   have f : decide (0 ≤ n) = false := decide_eq_false (by omega)
   subst e
   clear K
   go_wp2_with fail
   go_meet
   case rel => exact ⟨rfl, rfl⟩
  have f8826 : decide (0 ≤ n) = true := decide_eq_true (by omega)
  by_cases t3 : 1000 < n
  ·have e : sizes = false := by cases q : sizes; rfl; exact absurd (Hsizes.out.1 q) (by omega)
   have f : decide (n ≤ 1000) = false := decide_eq_false (by omega)
   subst e
   clear K
   go_wp2_with fail
   go_meet
   case rel => exact ⟨rfl, rfl⟩
  have f38847 : decide (n ≤ 1000) = true := decide_eq_true (by omega)
  have e : sizes = true := Hsizes.out.2 (by omega)
  subst e
  clear K
  go_wp2_with fail
  go_meet
  case rel => exact ⟨rfl, rfl⟩
 case rest =>
 obtain ⟨rfl, rfl⟩ := hcut
 obtain ⟨numb, hnumb⟩ : ∃ q : Bool, decide ((kind ≠ 2 ∨ 1 ≤ code ∧ code ≤ 11) ∧ (kind ≠ 5 ∨ 0 < wth) ∧ 0 ≤ unit ∧ unit ≤ 247) = q := ⟨_, rfl⟩
 have Hnumb : Hid (numb = true ↔ ((kind ≠ 2 ∨ 1 ≤ code ∧ code ≤ 11) ∧ (kind ≠ 5 ∨ 0 < wth) ∧ 0 ≤ unit ∧ unit ≤ 247)) := Lib.hid (by rw [← hnumb]; simp only [decide_eq_true_eq])
 clear hnumb
 go_upto_region 5 with fail
 go_cut [7] from 8 (fun s wx => s = .bool numb ∧ wx = wc)
 case first =>
  as_aux_lemma =>
  have HL2 := HL.out
  have K : True := trivial
  by_cases k2 : kind = 2
  ·have g2 : (kind != 2) = false := by simp [k2]
   have g5 : (kind != 5) = true := by simp; omega
   by_cases t0 : code < 1
   ·have e : numb = false := by cases q : numb; rfl; exact absurd (Hnumb.out.1 q) (by omega)
    have f : decide (1 ≤ code) = false := decide_eq_false (by omega)
    subst e
    clear K k2
    go_wp2_with fail
    go_meet
    case rel => exact ⟨rfl, rfl⟩
   have f47679 : decide (1 ≤ code) = true := decide_eq_true (by omega)
   by_cases t1 : 11 < code
   ·have e : numb = false := by cases q : numb; rfl; exact absurd (Hnumb.out.1 q) (by omega)
    have f : decide (code ≤ 11) = false := decide_eq_false (by omega)
    subst e
    clear K k2
    go_wp2_with fail
    go_meet
    case rel => exact ⟨rfl, rfl⟩
   have f31392 : decide (code ≤ 11) = true := decide_eq_true (by omega)
   by_cases t2 : unit < 0
   ·have e : numb = false := by cases q : numb; rfl; exact absurd (Hnumb.out.1 q) (by omega)
    have f : decide (0 ≤ unit) = false := decide_eq_false (by omega)
    subst e
    clear K k2
    go_wp2_with fail
    go_meet
    case rel => exact ⟨rfl, rfl⟩
   have f94276 : decide (0 ≤ unit) = true := decide_eq_true (by omega)
   by_cases t3 : 247 < unit
   ·have e : numb = false := by cases q : numb; rfl; exact absurd (Hnumb.out.1 q) (by omega)
    have f : decide (unit ≤ 247) = false := decide_eq_false (by omega)
    subst e
    clear K k2
    go_wp2_with fail
    go_meet
    case rel => exact ⟨rfl, rfl⟩
   have f38683 : decide (unit ≤ 247) = true := decide_eq_true (by omega)
   have e : numb = true := Hnumb.out.2 (by omega)
   subst e
   clear K k2
   go_wp2_with fail
   go_meet
   case rel => exact ⟨rfl, rfl⟩
  have g2 : (kind != 2) = true := by simp; omega
  by_cases k5 : kind = 5
  ·have g5 : (kind != 5) = false := by simp [k5]
   by_cases t0 : ¬ 0 < wth
   ·have e : numb = false := by cases q : numb; rfl; exact absurd (Hnumb.out.1 q) (by omega)
    have f : decide (0 < wth) = false := decide_eq_false (by omega)
    subst e
    clear K k5
    go_wp2_with fail
    go_meet
    case rel => exact ⟨rfl, rfl⟩
   have f11153 : decide (0 < wth) = true := decide_eq_true (by omega)
   by_cases t1 : unit < 0
   ·have e : numb = false := by cases q : numb; rfl; exact absurd (Hnumb.out.1 q) (by omega)
    have f : decide (0 ≤ unit) = false := decide_eq_false (by omega)
    subst e
    clear K k5
    go_wp2_with fail
    go_meet
    case rel => exact ⟨rfl, rfl⟩
   have f94276 : decide (0 ≤ unit) = true := decide_eq_true (by omega)
   by_cases t2 : 247 < unit
   ·have e : numb = false := by cases q : numb; rfl; exact absurd (Hnumb.out.1 q) (by omega)
    have f : decide (unit ≤ 247) = false := decide_eq_false (by omega)
    subst e
    clear K k5
    go_wp2_with fail
    go_meet
    case rel => exact ⟨rfl, rfl⟩
   have f38683 : decide (unit ≤ 247) = true := decide_eq_true (by omega)
   have e : numb = true := Hnumb.out.2 (by omega)
   subst e
   clear K k5
   go_wp2_with fail
   go_meet
   case rel => exact ⟨rfl, rfl⟩
  have g5 : (kind != 5) = true := by simp; omega
  by_cases t0 : unit < 0
  ·have e : numb = false := by cases q : numb; rfl; exact absurd (Hnumb.out.1 q) (by omega)
   have f : decide (0 ≤ unit) = false := decide_eq_false (by omega)
   subst e
   clear K
   go_wp2_with fail
   go_meet
   case rel => exact ⟨rfl, rfl⟩
  have f94276 : decide (0 ≤ unit) = true := decide_eq_true (by omega)
  by_cases t1 : 247 < unit
  ·have e : numb = false := by cases q : numb; rfl; exact absurd (Hnumb.out.1 q) (by omega)
   have f : decide (unit ≤ 247) = false := decide_eq_false (by omega)
   subst e
   clear K
   go_wp2_with fail
   go_meet
   case rel => exact ⟨rfl, rfl⟩
  have f38683 : decide (unit ≤ 247) = true := decide_eq_true (by omega)
  have e : numb = true := Hnumb.out.2 (by omega)
  subst e
  clear K
  go_wp2_with fail
  go_meet
  case rel => exact ⟨rfl, rfl⟩
 case rest =>
 obtain ⟨rfl, rfl⟩ := hcut
 have HNM := Lib.hid (bname_any kind wc (HT.out.up hb3))
 go_wp2_with fail
 refine HNM.out.mono ?_
 rintro e w4 ⟨rfl, rfl⟩
 have hnm := nameB_no kind
 obtain ⟨nmb, hnmb⟩ : ∃ b, decide (¬ (1 ≤ kind ∧ kind ≤ 7)) = b := ⟨_, rfl⟩
 rw [hnmb] at hnm
 have HNB : Hid (nmb = true ↔ ¬ (1 ≤ kind ∧ kind ≤ 7)) := Lib.hid (by rw [← hnmb]; simp only [decide_eq_true_eq])
 clear hnmb
 generalize nameB kind = nm at hnm ⊢
 cases nmb
 case true =>
  have Z := Lib.hid (yes_of HNB.out)
  clear HNB Hsame Hticks Hsizes Hnumb
  go_wp2_with fail
  all_goals (
   go_ret
   exact ⟨FIN.out 220 (.inr ⟨rfl, fun h => Z.out (MP.out.1 h).1⟩), hb3⟩)
 have HK := Lib.hid (not_of HNB.out)
 clear HNB
 cases same
 ·have Z := Lib.hid (not_of Hsame.out)
  clear Hsame Hticks Hsizes Hnumb
  go_wp2_with fail
  all_goals (
   go_ret
   exact ⟨FIN.out 220 (.inr ⟨rfl, fun h => Z.out (MP.out.1 h).2.1⟩), hb3⟩)
 have Ysame := Lib.hid (yes_of Hsame.out)
 clear Hsame
 cases ticks
 ·have Z := Lib.hid (not_of Hticks.out)
  clear Hticks Hsizes Hnumb
  go_wp2_with fail
  all_goals (
   go_ret
   exact ⟨FIN.out 220 (.inr ⟨rfl, fun h => Z.out (MP.out.1 h).2.2.1⟩), hb3⟩)
 have Yticks := Lib.hid (yes_of Hticks.out)
 clear Hticks
 cases sizes
 ·have Z := Lib.hid (not_of Hsizes.out)
  clear Hsizes Hnumb
  go_wp2_with fail
  all_goals (
   go_ret
   exact ⟨FIN.out 220 (.inr ⟨rfl, fun h => Z.out (MP.out.1 h).2.2.2.1⟩), hb3⟩)
 have Ysizes := Lib.hid (yes_of Hsizes.out)
 clear Hsizes
 cases numb
 ·have Z := Lib.hid (not_of Hnumb.out)
  clear Hnumb
  go_wp2_with fail
  all_goals (
   go_ret
   exact ⟨FIN.out 220 (.inr ⟨rfl, fun h => Z.out (MP.out.1 h).2.2.2.2⟩), hb3⟩)
 have Ynumb := Lib.hid (yes_of Hnumb.out)
 clear Hnumb
 go_wp2_with fail
 go_ret
 exact ⟨FIN.out 0 (.inl ⟨rfl, MP.out.2 ⟨Decidable.not_not.1 HK.out, Ysame.out, Yticks.out, Ysizes.out, Ynumb.out⟩⟩), hb3⟩
end Go.Proofs.YtcipleanckeoaaaDoor
