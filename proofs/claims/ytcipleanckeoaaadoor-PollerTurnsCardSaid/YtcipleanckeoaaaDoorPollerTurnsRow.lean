/- A polling with Step at each Next, whatever is heard between: a turn is over within (Retries and 1) times (Timeout and Silence), and a point that is not offline begins a turn within Period and the turns of all points once: for any polling, and whatever is heard, the law PollerTurns returns true. No condition. -/
import Derived.Test.YtcipleanckeoaaaDoorRows
import Derived.Test.YtcipleanckeoaaaDoorCards
import Derived.Test.YtcipleanckeoaaaDoorTie
import Derived.Test.YtcipleanckeoaaaDoorCommon
import Derived.Test.YtcipleanckeoaaaDoorPolT
import Derived.Test.YtcipleanckeoaaaDoorPolR
import Derived.WalkKit
import Derived.ProofKit
import Derived.OpenShut
import Derived.ShutString
import Derived.ChangeOld
import Derived.Below
import Derived.ChangeArms
import Derived.Deep.DeepHandedRow
import Derived.Lib.LaidTab
import Derived.Stop.LaidErr
namespace Go.Proofs.YtcipleanckeoaaaDoor.pollerTurns
open Go.ChangeShapes Go.WideShapes Go.ChangeAt Go.RowKit
open Go.ChangeMaps (open_string shut_string)
set_option linter.unusedVariables false

theorem own : ownKnob Tryd.prog.godebug = none := by kernel_rfl
theorem laidOut : laidOutB Tryd.prog = true := by kernel_rfl
theorem g_0 : Tryd.prog.globalNamed "kilowatt/pdu.limits" = some 1 := by kernel_rfl
theorem gt_0 : (Tryd.prog.globals[1]?).map (·.type) = some 207 := by kernel_rfl
set_option maxRecDepth 100000 in
theorem range_0 {W : World} (h : laidMet Tryd.prog Rows.pollerTurnsRow.laid W) : W.rangeAt 1 0 [.int .i64 1, .int .i64 2000, .int .i64 0, .int .i64 0, .int .i64 2, .int .i64 2000, .int .i64 0, .int .i64 0, .int .i64 3, .int .i64 125, .int .i64 0, .int .i64 0, .int .i64 4, .int .i64 125, .int .i64 0, .int .i64 0, .int .i64 5, .int .i64 0, .int .i64 1, .int .i64 0, .int .i64 6, .int .i64 0, .int .i64 0, .int .i64 1, .int .i64 15, .int .i64 0, .int .i64 1968, .int .i64 0, .int .i64 16, .int .i64 0, .int .i64 0, .int .i64 123, .int .i64 23, .int .i64 125, .int .i64 0, .int .i64 121] := by
  refine range_of_head (rows := [[1, 2000, 0, 0], [2, 2000, 0, 0], [3, 125, 0, 0], [4, 125, 0, 0], [5, 0, 1, 0], [6, 0, 0, 1], [15, 0, 1968, 0], [16, 0, 0, 123], [23, 125, 0, 121]]) (m := 4) g_0 gt_0 Tryd.underlying207 Tryd.underlying167 (by kernel_rfl) (by kernel_rfl) rfl ?_ rfl ?_ h
  · intro j f hj
    match j, hj with
    | 0, hj => obtain rfl := (Option.some.inj hj); exact ⟨rfl, by kernel_rfl, by kernel_rfl⟩
    | 1, hj => obtain rfl := (Option.some.inj hj); exact ⟨rfl, by kernel_rfl, by kernel_rfl⟩
    | 2, hj => obtain rfl := (Option.some.inj hj); exact ⟨rfl, by kernel_rfl, by kernel_rfl⟩
    | 3, hj => obtain rfl := (Option.some.inj hj); exact ⟨rfl, by kernel_rfl, by kernel_rfl⟩
    | _ + 4, hj => cases hj
  · intro i v hi
    match i, hi with
    | 0, hi => exact ⟨_, _, rfl, rfl, (Option.some.inj hi).symm⟩
    | 1, hi => exact ⟨_, _, rfl, rfl, (Option.some.inj hi).symm⟩
    | 2, hi => exact ⟨_, _, rfl, rfl, (Option.some.inj hi).symm⟩
    | 3, hi => exact ⟨_, _, rfl, rfl, (Option.some.inj hi).symm⟩
    | 4, hi => exact ⟨_, _, rfl, rfl, (Option.some.inj hi).symm⟩
    | 5, hi => exact ⟨_, _, rfl, rfl, (Option.some.inj hi).symm⟩
    | 6, hi => exact ⟨_, _, rfl, rfl, (Option.some.inj hi).symm⟩
    | 7, hi => exact ⟨_, _, rfl, rfl, (Option.some.inj hi).symm⟩
    | 8, hi => exact ⟨_, _, rfl, rfl, (Option.some.inj hi).symm⟩
    | 9, hi => exact ⟨_, _, rfl, rfl, (Option.some.inj hi).symm⟩
    | 10, hi => exact ⟨_, _, rfl, rfl, (Option.some.inj hi).symm⟩
    | 11, hi => exact ⟨_, _, rfl, rfl, (Option.some.inj hi).symm⟩
    | 12, hi => exact ⟨_, _, rfl, rfl, (Option.some.inj hi).symm⟩
    | 13, hi => exact ⟨_, _, rfl, rfl, (Option.some.inj hi).symm⟩
    | 14, hi => exact ⟨_, _, rfl, rfl, (Option.some.inj hi).symm⟩
    | 15, hi => exact ⟨_, _, rfl, rfl, (Option.some.inj hi).symm⟩
    | 16, hi => exact ⟨_, _, rfl, rfl, (Option.some.inj hi).symm⟩
    | 17, hi => exact ⟨_, _, rfl, rfl, (Option.some.inj hi).symm⟩
    | 18, hi => exact ⟨_, _, rfl, rfl, (Option.some.inj hi).symm⟩
    | 19, hi => exact ⟨_, _, rfl, rfl, (Option.some.inj hi).symm⟩
    | 20, hi => exact ⟨_, _, rfl, rfl, (Option.some.inj hi).symm⟩
    | 21, hi => exact ⟨_, _, rfl, rfl, (Option.some.inj hi).symm⟩
    | 22, hi => exact ⟨_, _, rfl, rfl, (Option.some.inj hi).symm⟩
    | 23, hi => exact ⟨_, _, rfl, rfl, (Option.some.inj hi).symm⟩
    | 24, hi => exact ⟨_, _, rfl, rfl, (Option.some.inj hi).symm⟩
    | 25, hi => exact ⟨_, _, rfl, rfl, (Option.some.inj hi).symm⟩
    | 26, hi => exact ⟨_, _, rfl, rfl, (Option.some.inj hi).symm⟩
    | 27, hi => exact ⟨_, _, rfl, rfl, (Option.some.inj hi).symm⟩
    | 28, hi => exact ⟨_, _, rfl, rfl, (Option.some.inj hi).symm⟩
    | 29, hi => exact ⟨_, _, rfl, rfl, (Option.some.inj hi).symm⟩
    | 30, hi => exact ⟨_, _, rfl, rfl, (Option.some.inj hi).symm⟩
    | 31, hi => exact ⟨_, _, rfl, rfl, (Option.some.inj hi).symm⟩
    | 32, hi => exact ⟨_, _, rfl, rfl, (Option.some.inj hi).symm⟩
    | 33, hi => exact ⟨_, _, rfl, rfl, (Option.some.inj hi).symm⟩
    | 34, hi => exact ⟨_, _, rfl, rfl, (Option.some.inj hi).symm⟩
    | 35, hi => exact ⟨_, _, rfl, rfl, (Option.some.inj hi).symm⟩
    | _ + 36, hi => cases hi

theorem list_6 {α : Type} {l : List α} (h : l.length = 6) : ∃ c0 c1 c2 c3 c4 c5, l = [c0, c1, c2, c3, c4, c5] := by
  match l, h with
  | [c0, c1, c2, c3, c4, c5], _ => exact ⟨c0, c1, c2, c3, c4, c5, rfl⟩
theorem walk (a0_1 : Option Addr) (n0_1 c0_1 : Nat) (x0_1 : List PPt) (a0_2 : Int) (a0_3 : Int) (a0_4 : Int) (a0_5 : Int) (a0_6 : Int) (a1 : Option Addr) (n1 c1 : Nat) (x1 : List OpP) (w : World)   (t0 : w.rangeAt 1 0 [.int .i64 1, .int .i64 2000, .int .i64 0, .int .i64 0, .int .i64 2, .int .i64 2000, .int .i64 0, .int .i64 0, .int .i64 3, .int .i64 125, .int .i64 0, .int .i64 0, .int .i64 4, .int .i64 125, .int .i64 0, .int .i64 0, .int .i64 5, .int .i64 0, .int .i64 1, .int .i64 0, .int .i64 6, .int .i64 0, .int .i64 0, .int .i64 1, .int .i64 15, .int .i64 0, .int .i64 1968, .int .i64 0, .int .i64 16, .int .i64 0, .int .i64 0, .int .i64 123, .int .i64 23, .int .i64 125, .int .i64 0, .int .i64 121])  (s0_1 : PtsI w w.heap.size a0_1 n0_1 c0_1 x0_1) (b0_1 : ∀ x ∈ x0_1, x.due = 0 ∧ x.fails = 0 ∧ x.turns = 0) (w0_2 : (Lit.int .i64 a0_2).wf = true) (w0_3 : (Lit.int .i64 a0_3).wf = true) (w0_4 : (Lit.int .i64 a0_4).wf = true) (w0_5 : (Lit.int .i64 a0_5).wf = true) (w0_6 : (Lit.int .i64 a0_6).wf = true) (s1 : HopI w w.heap.size a1 n1 c1 x1) (b1 : ∀ o ∈ x1, o.ok) :
    Calls Tryd.prog 8 #[.agg #[.slice a0_1 n0_1 c0_1, .int .i64 a0_2, .int .i64 a0_3, .int .i64 a0_4, .int .i64 a0_5, .int .i64 a0_6], .slice a1 n1 c1] w fun e w' => e = .returned (.bool true) ∧ Below w.heap.size w w' := by
  exact turns23_any a0_1 n0_1 c0_1 ⟨a0_2, a0_3, a0_4, a0_5, a0_6⟩ x0_1 a1 n1 c1 x1 w t0 s0_1 b0_1 s1 b1

set_option maxHeartbeats 4000000 in
set_option maxRecDepth 100000 in
theorem contract (H : Type) (enc : TypeId × Value → H) (W : World) (base : Nat) (args : Array Value) (ds gs : List (DataW H)) (before : List MemPlace)
    (hval0 : ∀ (j : Nat) t v, Tryd.f8.params[j]? = some t → args[j]? = some v → Value.okWide Tryd.prog W .any base t v)
    (hW : DataW.Whole enc Tryd.prog Tryd.f8.params.toList Rows.pollerTurnsSpec.vars false W args.toList ds gs before) (hL : laidMet Tryd.prog Rows.pollerTurnsRow.laid W) :
    Calls Tryd.prog 8 args W fun e W' => ∃ v, e = .returned v ∧ Rows.pollerTurnsSpec.post enc Tryd.prog Tryd.f8 false true false false W args v W' := by
  have hval : ∀ (j : Nat) t v, Tryd.f8.params[j]? = some t → args[j]? = some v → Value.okWide Tryd.prog W .any base t v := hval0
  have hW' := hW
  obtain ⟨p, q, hA0, hV, rfl, hfz, hnd⟩ := hW
  have hA : DataW.TrodAll enc Tryd.prog W 0 (fun _ => true) true Tryd.f8.params.toList args.toList ds p := hA0
  rw [Tryd.params8] at hA hval
  obtain ⟨v0, vs0, d0, ds0, p0, q0, hargs, rfl, rfl, h0, r0⟩ := trodAll_cons hA
  obtain ⟨v1, vs1, d1, ds1, p1, q1, rfl, rfl, rfl, h1, r1⟩ := trodAll_cons r0
  obtain ⟨rfl, rfl, rfl⟩ := trodAll_nil r1
  obtain rfl : args = #[v0, v1] := by cases args; simp_all
  obtain ⟨rfl, rfl⟩ := trodVars_none hV
  obtain ⟨⟨cc0⟩, rfl, sz0⟩ := okWide_struct Tryd.underlying75 (hval 0 75 v0 rfl rfl)
  have k0 := h0
  have lt0 : ∀ x ∈ p0, x.block < W.heap.size := by obtain ⟨m, hm⟩ := k0; exact DataW.trod_lt m _ _ _ hm
  obtain ⟨q0_0, q0_1, q0_2, q0_3, q0_4, q0_5, rfl⟩ := list_6 (show cc0.length = 6 from sz0.trans (by kernel_rfl))
  obtain ⟨f0', hf0'⟩ := h0
  simp only [Value.cells] at hf0'
  obtain ⟨xs1', m1', _, _, _, len1', at1'⟩ := DataW.trod_struct Tryd.underlying75 hf0'
  have g2' : DataW.trod enc Tryd.prog W 0 (fun _ => true) true m1' 73 (([q0_0, q0_1, q0_2, q0_3, q0_4, q0_5].drop 0).take (Tryd.prog.cellsOf 73)) = xs1'[0]? := at1' 0 _ rfl
  rw [show xs1'[0]? = some (xs1'[0]'(by rw [len1']; decide)) from List.getElem?_eq_getElem _, show Tryd.prog.cellsOf 73 = 1 by kernel_rfl] at g2'
  simp only [List.drop_zero, List.take_succ_cons, List.take_zero] at g2'
  obtain ⟨a0_1, n0_1, c0_1, x0_1, e2', s0_1, b0_1⟩ := open_pts g2'
  obtain rfl : q0_0 = .slice a0_1 n0_1 c0_1 := by simpa using e2'
  have g3' : DataW.trod enc Tryd.prog W 0 (fun _ => true) true m1' 2 (([.slice a0_1 n0_1 c0_1, q0_1, q0_2, q0_3, q0_4, q0_5].drop 1).take (Tryd.prog.cellsOf 2)) = xs1'[1]? := at1' 1 _ rfl
  rw [show xs1'[1]? = some (xs1'[1]'(by rw [len1']; decide)) from List.getElem?_eq_getElem _, show Tryd.prog.cellsOf 2 = 1 by kernel_rfl] at g3'
  simp only [List.drop_zero, List.drop_succ_cons, List.take_succ_cons, List.take_zero] at g3'
  obtain ⟨a0_2, e3', _, w0_2⟩ := DataW.trod_int Tryd.underlying2 g3'
  obtain rfl : q0_1 = .int .i64 a0_2 := by simpa using e3'
  have g4' : DataW.trod enc Tryd.prog W 0 (fun _ => true) true m1' 2 (([.slice a0_1 n0_1 c0_1, .int .i64 a0_2, q0_2, q0_3, q0_4, q0_5].drop 2).take (Tryd.prog.cellsOf 2)) = xs1'[2]? := at1' 2 _ rfl
  rw [show xs1'[2]? = some (xs1'[2]'(by rw [len1']; decide)) from List.getElem?_eq_getElem _, show Tryd.prog.cellsOf 2 = 1 by kernel_rfl] at g4'
  simp only [List.drop_zero, List.drop_succ_cons, List.take_succ_cons, List.take_zero] at g4'
  obtain ⟨a0_3, e4', _, w0_3⟩ := DataW.trod_int Tryd.underlying2 g4'
  obtain rfl : q0_2 = .int .i64 a0_3 := by simpa using e4'
  have g5' : DataW.trod enc Tryd.prog W 0 (fun _ => true) true m1' 3 (([.slice a0_1 n0_1 c0_1, .int .i64 a0_2, .int .i64 a0_3, q0_3, q0_4, q0_5].drop 3).take (Tryd.prog.cellsOf 3)) = xs1'[3]? := at1' 3 _ rfl
  rw [show xs1'[3]? = some (xs1'[3]'(by rw [len1']; decide)) from List.getElem?_eq_getElem _, show Tryd.prog.cellsOf 3 = 1 by kernel_rfl] at g5'
  simp only [List.drop_zero, List.drop_succ_cons, List.take_succ_cons, List.take_zero] at g5'
  obtain ⟨a0_4, e5', _, w0_4⟩ := DataW.trod_int Tryd.underlying3 g5'
  obtain rfl : q0_3 = .int .i64 a0_4 := by simpa using e5'
  have g6' : DataW.trod enc Tryd.prog W 0 (fun _ => true) true m1' 2 (([.slice a0_1 n0_1 c0_1, .int .i64 a0_2, .int .i64 a0_3, .int .i64 a0_4, q0_4, q0_5].drop 4).take (Tryd.prog.cellsOf 2)) = xs1'[4]? := at1' 4 _ rfl
  rw [show xs1'[4]? = some (xs1'[4]'(by rw [len1']; decide)) from List.getElem?_eq_getElem _, show Tryd.prog.cellsOf 2 = 1 by kernel_rfl] at g6'
  simp only [List.drop_zero, List.drop_succ_cons, List.take_succ_cons, List.take_zero] at g6'
  obtain ⟨a0_5, e6', _, w0_5⟩ := DataW.trod_int Tryd.underlying2 g6'
  obtain rfl : q0_4 = .int .i64 a0_5 := by simpa using e6'
  have g7' : DataW.trod enc Tryd.prog W 0 (fun _ => true) true m1' 3 (([.slice a0_1 n0_1 c0_1, .int .i64 a0_2, .int .i64 a0_3, .int .i64 a0_4, .int .i64 a0_5, q0_5].drop 5).take (Tryd.prog.cellsOf 3)) = xs1'[5]? := at1' 5 _ rfl
  rw [show xs1'[5]? = some (xs1'[5]'(by rw [len1']; decide)) from List.getElem?_eq_getElem _, show Tryd.prog.cellsOf 3 = 1 by kernel_rfl] at g7'
  simp only [List.drop_zero, List.drop_succ_cons, List.take_succ_cons, List.take_zero] at g7'
  obtain ⟨a0_6, e7', _, w0_6⟩ := DataW.trod_int Tryd.underlying3 g7'
  obtain rfl : q0_5 = .int .i64 a0_6 := by simpa using e7'
  obtain ⟨a1, n1, c1, rfl⟩ := okWide_slice Tryd.underlying76 (hval 1 76 v1 rfl rfl)
  have k1 := h1
  have lt1 : ∀ x ∈ p1, x.block < W.heap.size := by obtain ⟨m, hm⟩ := k1; exact DataW.trod_lt m _ _ _ hm
  obtain ⟨f1', hf1'⟩ := h1
  obtain ⟨A1', n1', c1', x1, e1', s1, b1⟩ := open_hops hf1'
  obtain ⟨rfl, rfl, rfl⟩ : a1 = A1' ∧ n1 = n1' ∧ c1 = c1' := by simpa [Value.cells] using e1'
  clear hA0 hval0
  refine (walk a0_1 n0_1 c0_1 x0_1 a0_2 a0_3 a0_4 a0_5 a0_6 a1 n1 c1 x1 W (range_0 hL) s0_1 b0_1 w0_2 w0_3 w0_4 w0_5 w0_6 s1 b1).mono fun e W' ⟨he, bel⟩ => ?_
  subst he
  exact ⟨_, rfl, _, _, _, [], _, [], hW', trodAll_mk1 (shut_bool Tryd.underlying4 _), (trodAll_cons_mk (Below.trod laidOut (by kernel_rfl) (of_decide_eq_true (by kernel_rfl)) k0 bel lt0) (trodAll_cons_mk (Below.trod laidOut (by kernel_rfl) (of_decide_eq_true (by kernel_rfl)) k1 bel lt1) trodAll_mk0)), rfl, bel.frame _, fun h => by cases h⟩

/-- A world for the witness: the settled one, the listed tables as their initialisers lay them. -/
noncomputable def laidWorld (os : Os) : World :=
  { World.holding Tryd.prog os ⟨#[], #[], []⟩ with heap := ((World.holding Tryd.prog os ⟨#[], #[], []⟩).heap.modify 1 fun | .cells _ t frozen => .cells #[.int .i64 1, .int .i64 2000, .int .i64 0, .int .i64 0, .int .i64 2, .int .i64 2000, .int .i64 0, .int .i64 0, .int .i64 3, .int .i64 125, .int .i64 0, .int .i64 0, .int .i64 4, .int .i64 125, .int .i64 0, .int .i64 0, .int .i64 5, .int .i64 0, .int .i64 1, .int .i64 0, .int .i64 6, .int .i64 0, .int .i64 0, .int .i64 1, .int .i64 15, .int .i64 0, .int .i64 1968, .int .i64 0, .int .i64 16, .int .i64 0, .int .i64 0, .int .i64 123, .int .i64 23, .int .i64 125, .int .i64 0, .int .i64 121] t frozen | o => o) }
set_option maxRecDepth 100000 in
theorem laid_met (os : Os) : laidMet Tryd.prog Rows.pollerTurnsRow.laid ((laidWorld os).forCall (fun _ _ => 0) ⟨#[], #[.agg #[.slice none 0 0, .int .i64 0, .int .i64 0, .int .i64 0, .int .i64 0, .int .i64 0], .slice none 0 0], []⟩).memory :=
  laidMet_of_run' 8 (by kernel_rfl) (by kernel_rfl)
set_option maxRecDepth 100000 in
theorem reads (os : Os) {H : Type} (enc : TypeId × Value → H) : ∃ places, DataW.whole enc Tryd.prog ((laidWorld os).forCall (fun _ _ => 0) ⟨#[], #[.agg #[.slice none 0 0, .int .i64 0, .int .i64 0, .int .i64 0, .int .i64 0, .int .i64 0], .slice none 0 0], []⟩).memory Tryd.f8.params.toList Rows.pollerTurnsSpec.vars false (#[.agg #[.slice none 0 0, .int .i64 0, .int .i64 0, .int .i64 0, .int .i64 0, .int .i64 0], .slice none 0 0] : Array Value).toList 8 = some ([.agg [.nil, .lit (.int .i64 0), .lit (.int .i64 0), .lit (.int .i64 0), .lit (.int .i64 0), .lit (.int .i64 0)], .nil], [], places) :=
  ⟨[], by kernel_rfl⟩
set_option maxRecDepth 100000 in
theorem lifted (os : Os) (started : os.Started) (H : Type) (enc : TypeId × Value → H) (F : Stop.Interp) :
    ReturnsInHanded {} Tryd.checked os 8 .any ((OpenSpec.ofChange Rows.pollerTurnsSpec).preRow enc Tryd.prog Tryd.f8 Rows.pollerTurnsRow.domain false Rows.pollerTurnsRow.laid) (((OpenSpec.ofChange Rows.pollerTurnsSpec).at F).post enc Tryd.prog Tryd.f8 false true false false) := by
  obtain ⟨places, hx⟩ := reads os enc
  refine returnsInHanded_of_row (C := Tryd.checked) (s := OpenSpec.ofChange Rows.pollerTurnsSpec) own started (by kernel_rfl) Tryd.func8
    (witness_row_at (enc := enc) (C := Tryd.checked) false (laidWorld os) #[.agg #[.slice none 0 0, .int .i64 0, .int .i64 0, .int .i64 0, .int .i64 0, .int .i64 0], .slice none 0 0] rfl (by kernel_rfl) (by kernel_rfl) (by kernel_rfl)
      (OpenSpec.preRow_of_cond 8 hx (by kernel_rfl) (fun k hk => by cases hk) (by kernel_rfl) (laid_met os))) ?_
  intro W base args ds gs before hval hW _ hcond _ hL _ _
  exact contract H enc W base args ds gs before hval hW hL
theorem said : Rows.PollerTurnsSaid :=
  OpenClaim.holds_of_cond 8 Tryd.f8 rfl rfl rfl rfl rfl rfl rfl ⟨rfl, rfl, rfl, rfl, rfl⟩ rfl rfl rfl rfl rfl (by kernel_rfl) Tryd.func8 (by kernel_rfl)
    (of_decide_eq_true (by kernel_rfl)) (by unfold Func.isWrapper; first | (rw [if_pos (by decide +kernel)]; kernel_rfl) | (rw [if_neg (by decide +kernel)]; exact ⟨rfl, rfl⟩))
    (fun os started H enc _ F => by rw [OpenClaim.pre_eq_preRow]; exact lifted os started H enc F)
theorem plain (f : FuncId) (fn : Func) (hf : Tryd.pinned.checked.prog.funcNamed "kilowatt/kilowattlaw23.PollerTurns" = some f) (hfn : Tryd.pinned.checked.prog.funcs[f]? = some fn) :
    false = Tryd.pinned.checked.prog.looks [] ∧ ∀ (j : Nat) t, fn.params[j]? = some t → Tryd.pinned.checked.prog.wantsStandIn t = false := by
  obtain rfl : f = 8 := Option.some.inj ((show Tryd.prog.funcNamed "kilowatt/kilowattlaw23.PollerTurns" = some 8 by kernel_rfl).symm.trans hf) |>.symm
  obtain rfl : fn = Tryd.f8 := (Option.some.inj (Tryd.func8.symm.trans hfn)).symm
  refine ⟨by kernel_rfl, fun j t ht => ?_⟩
  rw [Tryd.params8] at ht
  have hm : t ∈ ([75, 76] : List Nat) := by simpa using Array.mem_of_getElem? ht
  have hall : (([75, 76] : List Nat).all fun u => !Tryd.prog.wantsStandIn u) = true := by kernel_rfl
  exact (show Tryd.prog.wantsStandIn t = false by simpa using List.all_eq_true.1 hall t hm)
/-- The statement: the card. -/
theorem proved : Rows.PollerTurnsCardSaid :=
  Claim7.holds_tied_plain_at .later [] _ _ _ _ said (fun _ h => by cases h) (by kernel_rfl) (fun _ h => by cases h) pollerTurns_row_tie rfl ⟨rfl, rfl⟩ (by kernel_rfl) rfl plain (by kernel_rfl)
#print axioms proved
end Go.Proofs.YtcipleanckeoaaaDoor.pollerTurns
