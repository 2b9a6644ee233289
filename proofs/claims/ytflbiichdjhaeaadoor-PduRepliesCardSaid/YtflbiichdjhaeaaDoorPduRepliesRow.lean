/- a reply's bytes say it; an exception is never a reply; what ReadAnswer takes has those bytes -/
import Derived.Test.YtflbiichdjhaeaaDoorRows
import Derived.Test.YtflbiichdjhaeaaDoorCards
import Derived.Test.YtflbiichdjhaeaaDoorTie
import Derived.Test.YtflbiichdjhaeaaDoorMem
import Derived.Test.YtflbiichdjhaeaaDoorTab
import Derived.Test.YtflbiichdjhaeaaDoorOpenB
import Derived.Test.YtflbiichdjhaeaaDoorTabs
import Derived.Test.YtflbiichdjhaeaaDoorPduReplies
import Derived.WalkKit
import Derived.ProofKit
import Derived.OpenShut
import Derived.ShutString
import Derived.ChangeOld
import Derived.Below
import Derived.ChangeArms
import Derived.Deep.DeepHandedRow
import Derived.Lib.LaidTab
import Derived.Stop.LaidErr
namespace Go.Proofs.YtflbiichdjhaeaaDoor.pduReplies
open Go.ChangeShapes Go.WideShapes Go.ChangeAt Go.RowKit
open Go.ChangeMaps (open_string shut_string)
set_option linter.unusedVariables false

theorem own : ownKnob Tryd.prog.godebug = none := by kernel_rfl
theorem laidOut : laidOutB Tryd.prog = true := by kernel_rfl
theorem g_0 : Tryd.prog.globalNamed "kilowatt/pdu.limits" = some 0 := by kernel_rfl
theorem gt_0 : (Tryd.prog.globals[0]?).map (·.type) = some 93 := by kernel_rfl
set_option maxRecDepth 100000 in
theorem range_0 {W : World} (h : laidMet Tryd.prog Rows.pduRepliesRow.laid W) : W.rangeAt 0 0 [.int .i64 1, .int .i64 2000, .int .i64 0, .int .i64 0, .int .i64 2, .int .i64 2000, .int .i64 0, .int .i64 0, .int .i64 3, .int .i64 125, .int .i64 0, .int .i64 0, .int .i64 4, .int .i64 125, .int .i64 0, .int .i64 0, .int .i64 5, .int .i64 0, .int .i64 1, .int .i64 0, .int .i64 6, .int .i64 0, .int .i64 0, .int .i64 1, .int .i64 15, .int .i64 0, .int .i64 1968, .int .i64 0, .int .i64 16, .int .i64 0, .int .i64 0, .int .i64 123, .int .i64 23, .int .i64 125, .int .i64 0, .int .i64 121] := by
  refine range_of_head (rows := [[1, 2000, 0, 0], [2, 2000, 0, 0], [3, 125, 0, 0], [4, 125, 0, 0], [5, 0, 1, 0], [6, 0, 0, 1], [15, 0, 1968, 0], [16, 0, 0, 123], [23, 125, 0, 121]]) (m := 4) g_0 gt_0 Tryd.underlying93 Tryd.underlying71 (by kernel_rfl) (by kernel_rfl) rfl ?_ rfl ?_ h
  · intro j f hj
    match j, hj with
    | 0, hj => obtain rfl := (Option.some.inj hj); exact ⟨rfl, by kernel_rfl, by kernel_rfl⟩
    | 1, hj => obtain rfl := (Option.some.inj hj); exact ⟨rfl, by kernel_rfl, by kernel_rfl⟩
    | 2, hj => obtain rfl := (Option.some.inj hj); exact ⟨rfl, by kernel_rfl, by kernel_rfl⟩
    | 3, hj => obtain rfl := (Option.some.inj hj); exact ⟨rfl, by kernel_rfl, by kernel_rfl⟩
    | _ + 4, hj => cases hj
  · intro i v hi
    match i, hi with
    | 0, hi => exact ⟨_, _, rfl, rfl, (Option.some.inj hi).symm⟩
    | 1, hi => exact ⟨_, _, rfl, rfl, (Option.some.inj hi).symm⟩
    | 2, hi => exact ⟨_, _, rfl, rfl, (Option.some.inj hi).symm⟩
    | 3, hi => exact ⟨_, _, rfl, rfl, (Option.some.inj hi).symm⟩
    | 4, hi => exact ⟨_, _, rfl, rfl, (Option.some.inj hi).symm⟩
    | 5, hi => exact ⟨_, _, rfl, rfl, (Option.some.inj hi).symm⟩
    | 6, hi => exact ⟨_, _, rfl, rfl, (Option.some.inj hi).symm⟩
    | 7, hi => exact ⟨_, _, rfl, rfl, (Option.some.inj hi).symm⟩
    | 8, hi => exact ⟨_, _, rfl, rfl, (Option.some.inj hi).symm⟩
    | 9, hi => exact ⟨_, _, rfl, rfl, (Option.some.inj hi).symm⟩
    | 10, hi => exact ⟨_, _, rfl, rfl, (Option.some.inj hi).symm⟩
    | 11, hi => exact ⟨_, _, rfl, rfl, (Option.some.inj hi).symm⟩
    | 12, hi => exact ⟨_, _, rfl, rfl, (Option.some.inj hi).symm⟩
    | 13, hi => exact ⟨_, _, rfl, rfl, (Option.some.inj hi).symm⟩
    | 14, hi => exact ⟨_, _, rfl, rfl, (Option.some.inj hi).symm⟩
    | 15, hi => exact ⟨_, _, rfl, rfl, (Option.some.inj hi).symm⟩
    | 16, hi => exact ⟨_, _, rfl, rfl, (Option.some.inj hi).symm⟩
    | 17, hi => exact ⟨_, _, rfl, rfl, (Option.some.inj hi).symm⟩
    | 18, hi => exact ⟨_, _, rfl, rfl, (Option.some.inj hi).symm⟩
    | 19, hi => exact ⟨_, _, rfl, rfl, (Option.some.inj hi).symm⟩
    | 20, hi => exact ⟨_, _, rfl, rfl, (Option.some.inj hi).symm⟩
    | 21, hi => exact ⟨_, _, rfl, rfl, (Option.some.inj hi).symm⟩
    | 22, hi => exact ⟨_, _, rfl, rfl, (Option.some.inj hi).symm⟩
    | 23, hi => exact ⟨_, _, rfl, rfl, (Option.some.inj hi).symm⟩
    | 24, hi => exact ⟨_, _, rfl, rfl, (Option.some.inj hi).symm⟩
    | 25, hi => exact ⟨_, _, rfl, rfl, (Option.some.inj hi).symm⟩
    | 26, hi => exact ⟨_, _, rfl, rfl, (Option.some.inj hi).symm⟩
    | 27, hi => exact ⟨_, _, rfl, rfl, (Option.some.inj hi).symm⟩
    | 28, hi => exact ⟨_, _, rfl, rfl, (Option.some.inj hi).symm⟩
    | 29, hi => exact ⟨_, _, rfl, rfl, (Option.some.inj hi).symm⟩
    | 30, hi => exact ⟨_, _, rfl, rfl, (Option.some.inj hi).symm⟩
    | 31, hi => exact ⟨_, _, rfl, rfl, (Option.some.inj hi).symm⟩
    | 32, hi => exact ⟨_, _, rfl, rfl, (Option.some.inj hi).symm⟩
    | 33, hi => exact ⟨_, _, rfl, rfl, (Option.some.inj hi).symm⟩
    | 34, hi => exact ⟨_, _, rfl, rfl, (Option.some.inj hi).symm⟩
    | 35, hi => exact ⟨_, _, rfl, rfl, (Option.some.inj hi).symm⟩
    | _ + 36, hi => cases hi

theorem list_4 {α : Type} {l : List α} (h : l.length = 4) : ∃ c0 c1 c2 c3, l = [c0, c1, c2, c3] := by
  match l, h with
  | [c0, c1, c2, c3], _ => exact ⟨c0, c1, c2, c3, rfl⟩
theorem list_6 {α : Type} {l : List α} (h : l.length = 6) : ∃ c0 c1 c2 c3 c4 c5, l = [c0, c1, c2, c3, c4, c5] := by
  match l, h with
  | [c0, c1, c2, c3, c4, c5], _ => exact ⟨c0, c1, c2, c3, c4, c5, rfl⟩
theorem walk (a0_1 : Int) (a0_2 : Int) (a0_3 : Int) (a0_4 : Int) (a0_5 : Option Addr) (n0_5 c0_5 : Nat) (x0_5 : List Bool) (a0_6 : Option Addr) (n0_6 c0_6 : Nat) (x0_6 : List Int) (a1_1 : Int) (a1_2 : Int) (a1_3 : Option Addr) (n1_3 c1_3 : Nat) (x1_3 : List Bool) (a1_4 : Option Addr) (n1_4 c1_4 : Nat) (x1_4 : List Int) (a2 : Option Addr) (n2 c2 : Nat) (x2 : List Int) (w : World)   (t0 : w.rangeAt 0 0 [.int .i64 1, .int .i64 2000, .int .i64 0, .int .i64 0, .int .i64 2, .int .i64 2000, .int .i64 0, .int .i64 0, .int .i64 3, .int .i64 125, .int .i64 0, .int .i64 0, .int .i64 4, .int .i64 125, .int .i64 0, .int .i64 0, .int .i64 5, .int .i64 0, .int .i64 1, .int .i64 0, .int .i64 6, .int .i64 0, .int .i64 0, .int .i64 1, .int .i64 15, .int .i64 0, .int .i64 1968, .int .i64 0, .int .i64 16, .int .i64 0, .int .i64 0, .int .i64 123, .int .i64 23, .int .i64 125, .int .i64 0, .int .i64 121]) (w0_1 : (Lit.int .i64 a0_1).wf = true) (w0_2 : (Lit.int .i64 a0_2).wf = true) (w0_3 : (Lit.int .i64 a0_3).wf = true) (w0_4 : (Lit.int .i64 a0_4).wf = true) (s0_5 : SlB w w.heap.size a0_5 n0_5 c0_5 x0_5) (s0_6 : SlI w w.heap.size .u16 a0_6 n0_6 c0_6 x0_6) (b0_6 : ∀ x ∈ x0_6, (Lit.int .u16 x).wf = true) (w1_1 : (Lit.int .i64 a1_1).wf = true) (w1_2 : (Lit.int .i64 a1_2).wf = true) (s1_3 : SlB w w.heap.size a1_3 n1_3 c1_3 x1_3) (s1_4 : SlI w w.heap.size .u16 a1_4 n1_4 c1_4 x1_4) (b1_4 : ∀ x ∈ x1_4, (Lit.int .u16 x).wf = true) (s2 : SlI w w.heap.size .u8 a2 n2 c2 x2) (b2 : ∀ x ∈ x2, (Lit.int .u8 x).wf = true) :
    Calls Tryd.prog 5 #[.agg #[.int .i64 a0_1, .int .i64 a0_2, .int .i64 a0_3, .int .i64 a0_4, .slice a0_5 n0_5 c0_5, .slice a0_6 n0_6 c0_6], .agg #[.int .i64 a1_1, .int .i64 a1_2, .slice a1_3 n1_3 c1_3, .slice a1_4 n1_4 c1_4], .slice a2 n2 c2] w fun e w' => e = .returned (.bool true) ∧ Below w.heap.size w w' := by
  exact law_replies ⟨a0_1, a0_2, a0_3, a0_4, x0_5, x0_6⟩ ⟨a1_1, a1_2, x1_3, x1_4⟩ x2 a0_5 n0_5 c0_5 a0_6 n0_6 c0_6 a1_3 n1_3 c1_3 a1_4 n1_4 c1_4 a2 n2 c2 w t0 s0_5 s0_6 (fun x hx => by have := bounds_u16 (b0_6 x hx); omega) s1_3 s1_4 (fun x hx => by have := bounds_u16 (b1_4 x hx); omega) s2 (fun x hx => by have := bounds_u8 (b2 x hx); omega)

set_option maxHeartbeats 4000000 in
set_option maxRecDepth 100000 in
theorem contract (H : Type) (enc : TypeId × Value → H) (W : World) (base : Nat) (args : Array Value) (ds gs : List (DataW H)) (before : List MemPlace)
    (hval0 : ∀ (j : Nat) t v, Tryd.f5.params[j]? = some t → args[j]? = some v → Value.okWide Tryd.prog W .any base t v)
    (hW : DataW.Whole enc Tryd.prog Tryd.f5.params.toList Rows.pduRepliesSpec.vars false W args.toList ds gs before) (hL : laidMet Tryd.prog Rows.pduRepliesRow.laid W) :
    Calls Tryd.prog 5 args W fun e W' => ∃ v, e = .returned v ∧ Rows.pduRepliesSpec.post enc Tryd.prog Tryd.f5 false true false false W args v W' := by
  have hval : ∀ (j : Nat) t v, Tryd.f5.params[j]? = some t → args[j]? = some v → Value.okWide Tryd.prog W .any base t v := hval0
  have hW' := hW
  obtain ⟨p, q, hA0, hV, rfl, hfz, hnd⟩ := hW
  have hA : DataW.TrodAll enc Tryd.prog W 0 (fun _ => true) true Tryd.f5.params.toList args.toList ds p := hA0
  rw [Tryd.params5] at hA hval
  obtain ⟨v0, vs0, d0, ds0, p0, q0, hargs, rfl, rfl, h0, r0⟩ := trodAll_cons hA
  obtain ⟨v1, vs1, d1, ds1, p1, q1, rfl, rfl, rfl, h1, r1⟩ := trodAll_cons r0
  obtain ⟨v2, vs2, d2, ds2, p2, q2, rfl, rfl, rfl, h2, r2⟩ := trodAll_cons r1
  obtain ⟨rfl, rfl, rfl⟩ := trodAll_nil r2
  obtain rfl : args = #[v0, v1, v2] := by cases args; simp_all
  obtain ⟨rfl, rfl⟩ := trodVars_none hV
  obtain ⟨⟨cc0⟩, rfl, sz0⟩ := okWide_struct Tryd.underlying25 (hval 0 25 v0 rfl rfl)
  have k0 := h0
  have lt0 : ∀ x ∈ p0, x.block < W.heap.size := by obtain ⟨m, hm⟩ := k0; exact DataW.trod_lt m _ _ _ hm
  obtain ⟨q0_0, q0_1, q0_2, q0_3, q0_4, q0_5, rfl⟩ := list_6 (show cc0.length = 6 from sz0.trans (by kernel_rfl))
  obtain ⟨f0', hf0'⟩ := h0
  simp only [Value.cells] at hf0'
  obtain ⟨xs1', m1', _, _, _, len1', at1'⟩ := DataW.trod_struct Tryd.underlying25 hf0'
  have g2' : DataW.trod enc Tryd.prog W 0 (fun _ => true) true m1' 3 (([q0_0, q0_1, q0_2, q0_3, q0_4, q0_5].drop 0).take (Tryd.prog.cellsOf 3)) = xs1'[0]? := at1' 0 _ rfl
  rw [show xs1'[0]? = some (xs1'[0]'(by rw [len1']; decide)) from List.getElem?_eq_getElem _, show Tryd.prog.cellsOf 3 = 1 by kernel_rfl] at g2'
  simp only [List.drop_zero, List.take_succ_cons, List.take_zero] at g2'
  obtain ⟨a0_1, e2', _, w0_1⟩ := DataW.trod_int Tryd.underlying3 g2'
  obtain rfl : q0_0 = .int .i64 a0_1 := by simpa using e2'
  have g3' : DataW.trod enc Tryd.prog W 0 (fun _ => true) true m1' 3 (([.int .i64 a0_1, q0_1, q0_2, q0_3, q0_4, q0_5].drop 1).take (Tryd.prog.cellsOf 3)) = xs1'[1]? := at1' 1 _ rfl
  rw [show xs1'[1]? = some (xs1'[1]'(by rw [len1']; decide)) from List.getElem?_eq_getElem _, show Tryd.prog.cellsOf 3 = 1 by kernel_rfl] at g3'
  simp only [List.drop_zero, List.drop_succ_cons, List.take_succ_cons, List.take_zero] at g3'
  obtain ⟨a0_2, e3', _, w0_2⟩ := DataW.trod_int Tryd.underlying3 g3'
  obtain rfl : q0_1 = .int .i64 a0_2 := by simpa using e3'
  have g4' : DataW.trod enc Tryd.prog W 0 (fun _ => true) true m1' 3 (([.int .i64 a0_1, .int .i64 a0_2, q0_2, q0_3, q0_4, q0_5].drop 2).take (Tryd.prog.cellsOf 3)) = xs1'[2]? := at1' 2 _ rfl
  rw [show xs1'[2]? = some (xs1'[2]'(by rw [len1']; decide)) from List.getElem?_eq_getElem _, show Tryd.prog.cellsOf 3 = 1 by kernel_rfl] at g4'
  simp only [List.drop_zero, List.drop_succ_cons, List.take_succ_cons, List.take_zero] at g4'
  obtain ⟨a0_3, e4', _, w0_3⟩ := DataW.trod_int Tryd.underlying3 g4'
  obtain rfl : q0_2 = .int .i64 a0_3 := by simpa using e4'
  have g5' : DataW.trod enc Tryd.prog W 0 (fun _ => true) true m1' 3 (([.int .i64 a0_1, .int .i64 a0_2, .int .i64 a0_3, q0_3, q0_4, q0_5].drop 3).take (Tryd.prog.cellsOf 3)) = xs1'[3]? := at1' 3 _ rfl
  rw [show xs1'[3]? = some (xs1'[3]'(by rw [len1']; decide)) from List.getElem?_eq_getElem _, show Tryd.prog.cellsOf 3 = 1 by kernel_rfl] at g5'
  simp only [List.drop_zero, List.drop_succ_cons, List.take_succ_cons, List.take_zero] at g5'
  obtain ⟨a0_4, e5', _, w0_4⟩ := DataW.trod_int Tryd.underlying3 g5'
  obtain rfl : q0_3 = .int .i64 a0_4 := by simpa using e5'
  have g6' : DataW.trod enc Tryd.prog W 0 (fun _ => true) true m1' 22 (([.int .i64 a0_1, .int .i64 a0_2, .int .i64 a0_3, .int .i64 a0_4, q0_4, q0_5].drop 4).take (Tryd.prog.cellsOf 22)) = xs1'[4]? := at1' 4 _ rfl
  rw [show xs1'[4]? = some (xs1'[4]'(by rw [len1']; decide)) from List.getElem?_eq_getElem _, show Tryd.prog.cellsOf 22 = 1 by kernel_rfl] at g6'
  simp only [List.drop_zero, List.drop_succ_cons, List.take_succ_cons, List.take_zero] at g6'
  obtain ⟨a0_5, n0_5, c0_5, x0_5, e6', s0_5⟩ : ∃ a n c xs, q0_4 = .slice a n c ∧ SlB W W.heap.size a n c xs := open_bools Tryd.underlying22 Tryd.underlying4 (by kernel_rfl) g6'
  subst e6'
  have g7' : DataW.trod enc Tryd.prog W 0 (fun _ => true) true m1' 23 (([.int .i64 a0_1, .int .i64 a0_2, .int .i64 a0_3, .int .i64 a0_4, .slice a0_5 n0_5 c0_5, q0_5].drop 5).take (Tryd.prog.cellsOf 23)) = xs1'[5]? := at1' 5 _ rfl
  rw [show xs1'[5]? = some (xs1'[5]'(by rw [len1']; decide)) from List.getElem?_eq_getElem _, show Tryd.prog.cellsOf 23 = 1 by kernel_rfl] at g7'
  simp only [List.drop_zero, List.drop_succ_cons, List.take_succ_cons, List.take_zero] at g7'
  obtain ⟨a0_6, n0_6, c0_6, x0_6, e7', s0_6, b0_6⟩ : ∃ a n c xs, q0_5 = .slice a n c ∧ SlI W W.heap.size .u16 a n c xs ∧ ∀ x ∈ xs, (Lit.int .u16 x).wf = true := by
    rcases open_ints Tryd.underlying23 Tryd.underlying54 (by kernel_rfl) g7' with ⟨hcs, _⟩ | ⟨x, l, c, zs, hcs, _, hl, hm, hz, _, hcell, hwz⟩
    · exact ⟨none, 0, 0, [], by simpa using hcs, SlI.nil _ _ _, by simp⟩
    · exact ⟨some x, l, c, zs.take _, by simpa using hcs, SlI.of_row hl hm (by simpa using hz) hcell, fun y hy => hwz y (List.mem_of_mem_take hy)⟩
  subst e7'
  obtain ⟨⟨cc1⟩, rfl, sz1⟩ := okWide_struct Tryd.underlying34 (hval 1 34 v1 rfl rfl)
  have k1 := h1
  have lt1 : ∀ x ∈ p1, x.block < W.heap.size := by obtain ⟨m, hm⟩ := k1; exact DataW.trod_lt m _ _ _ hm
  obtain ⟨q1_0, q1_1, q1_2, q1_3, rfl⟩ := list_4 (show cc1.length = 4 from sz1.trans (by kernel_rfl))
  obtain ⟨f1', hf1'⟩ := h1
  simp only [Value.cells] at hf1'
  obtain ⟨xs8', m8', _, _, _, len8', at8'⟩ := DataW.trod_struct Tryd.underlying34 hf1'
  have g9' : DataW.trod enc Tryd.prog W 0 (fun _ => true) true m8' 3 (([q1_0, q1_1, q1_2, q1_3].drop 0).take (Tryd.prog.cellsOf 3)) = xs8'[0]? := at8' 0 _ rfl
  rw [show xs8'[0]? = some (xs8'[0]'(by rw [len8']; decide)) from List.getElem?_eq_getElem _, show Tryd.prog.cellsOf 3 = 1 by kernel_rfl] at g9'
  simp only [List.drop_zero, List.take_succ_cons, List.take_zero] at g9'
  obtain ⟨a1_1, e9', _, w1_1⟩ := DataW.trod_int Tryd.underlying3 g9'
  obtain rfl : q1_0 = .int .i64 a1_1 := by simpa using e9'
  have g10' : DataW.trod enc Tryd.prog W 0 (fun _ => true) true m8' 3 (([.int .i64 a1_1, q1_1, q1_2, q1_3].drop 1).take (Tryd.prog.cellsOf 3)) = xs8'[1]? := at8' 1 _ rfl
  rw [show xs8'[1]? = some (xs8'[1]'(by rw [len8']; decide)) from List.getElem?_eq_getElem _, show Tryd.prog.cellsOf 3 = 1 by kernel_rfl] at g10'
  simp only [List.drop_zero, List.drop_succ_cons, List.take_succ_cons, List.take_zero] at g10'
  obtain ⟨a1_2, e10', _, w1_2⟩ := DataW.trod_int Tryd.underlying3 g10'
  obtain rfl : q1_1 = .int .i64 a1_2 := by simpa using e10'
  have g11' : DataW.trod enc Tryd.prog W 0 (fun _ => true) true m8' 22 (([.int .i64 a1_1, .int .i64 a1_2, q1_2, q1_3].drop 2).take (Tryd.prog.cellsOf 22)) = xs8'[2]? := at8' 2 _ rfl
  rw [show xs8'[2]? = some (xs8'[2]'(by rw [len8']; decide)) from List.getElem?_eq_getElem _, show Tryd.prog.cellsOf 22 = 1 by kernel_rfl] at g11'
  simp only [List.drop_zero, List.drop_succ_cons, List.take_succ_cons, List.take_zero] at g11'
  obtain ⟨a1_3, n1_3, c1_3, x1_3, e11', s1_3⟩ : ∃ a n c xs, q1_2 = .slice a n c ∧ SlB W W.heap.size a n c xs := open_bools Tryd.underlying22 Tryd.underlying4 (by kernel_rfl) g11'
  subst e11'
  have g12' : DataW.trod enc Tryd.prog W 0 (fun _ => true) true m8' 23 (([.int .i64 a1_1, .int .i64 a1_2, .slice a1_3 n1_3 c1_3, q1_3].drop 3).take (Tryd.prog.cellsOf 23)) = xs8'[3]? := at8' 3 _ rfl
  rw [show xs8'[3]? = some (xs8'[3]'(by rw [len8']; decide)) from List.getElem?_eq_getElem _, show Tryd.prog.cellsOf 23 = 1 by kernel_rfl] at g12'
  simp only [List.drop_zero, List.drop_succ_cons, List.take_succ_cons, List.take_zero] at g12'
  obtain ⟨a1_4, n1_4, c1_4, x1_4, e12', s1_4, b1_4⟩ : ∃ a n c xs, q1_3 = .slice a n c ∧ SlI W W.heap.size .u16 a n c xs ∧ ∀ x ∈ xs, (Lit.int .u16 x).wf = true := by
    rcases open_ints Tryd.underlying23 Tryd.underlying54 (by kernel_rfl) g12' with ⟨hcs, _⟩ | ⟨x, l, c, zs, hcs, _, hl, hm, hz, _, hcell, hwz⟩
    · exact ⟨none, 0, 0, [], by simpa using hcs, SlI.nil _ _ _, by simp⟩
    · exact ⟨some x, l, c, zs.take _, by simpa using hcs, SlI.of_row hl hm (by simpa using hz) hcell, fun y hy => hwz y (List.mem_of_mem_take hy)⟩
  subst e12'
  obtain ⟨a2, n2, c2, rfl⟩ := okWide_slice Tryd.underlying28 (hval 2 28 v2 rfl rfl)
  have k2 := h2
  have lt2 : ∀ x ∈ p2, x.block < W.heap.size := by obtain ⟨m, hm⟩ := k2; exact DataW.trod_lt m _ _ _ hm
  obtain ⟨f2', hf2'⟩ := h2
  obtain ⟨x2, s2, b2⟩ : ∃ xs, SlI W W.heap.size .u8 a2 n2 c2 xs ∧ ∀ x ∈ xs, (Lit.int .u8 x).wf = true := by
    rcases open_ints Tryd.underlying28 Tryd.underlying5 (by kernel_rfl) hf2' with ⟨hcs, _⟩ | ⟨x, l, c, zs, hcs, _, hl, hm, hz, _, hcell, hwz⟩
    · simp [Value.cells] at hcs
      obtain ⟨rfl, rfl, rfl⟩ := hcs
      exact ⟨[], SlI.nil _ _ _, by simp⟩
    · simp [Value.cells] at hcs
      obtain ⟨rfl, rfl, rfl⟩ := hcs
      exact ⟨zs.take _, SlI.of_row hl hm (by simpa using hz) hcell, fun y hy => hwz y (List.mem_of_mem_take hy)⟩
  clear hA0 hval0
  refine (walk a0_1 a0_2 a0_3 a0_4 a0_5 n0_5 c0_5 x0_5 a0_6 n0_6 c0_6 x0_6 a1_1 a1_2 a1_3 n1_3 c1_3 x1_3 a1_4 n1_4 c1_4 x1_4 a2 n2 c2 x2 W (range_0 hL) w0_1 w0_2 w0_3 w0_4 s0_5 s0_6 b0_6 w1_1 w1_2 s1_3 s1_4 b1_4 s2 b2).mono fun e W' ⟨he, bel⟩ => ?_
  subst he
  exact ⟨_, rfl, _, _, _, [], _, [], hW', trodAll_mk1 (shut_bool Tryd.underlying4 _), (trodAll_cons_mk (Below.trod laidOut (by kernel_rfl) (of_decide_eq_true (by kernel_rfl)) k0 bel lt0) (trodAll_cons_mk (Below.trod laidOut (by kernel_rfl) (of_decide_eq_true (by kernel_rfl)) k1 bel lt1) (trodAll_cons_mk (Below.trod laidOut (by kernel_rfl) (of_decide_eq_true (by kernel_rfl)) k2 bel lt2) trodAll_mk0))), rfl, bel.frame _, fun h => by cases h⟩

/-- A world for the witness: the settled one, the listed tables as their initialisers lay them. -/
noncomputable def laidWorld (os : Os) : World :=
  { World.holding Tryd.prog os ⟨#[], #[], []⟩ with heap := ((World.holding Tryd.prog os ⟨#[], #[], []⟩).heap.modify 0 fun | .cells _ t frozen => .cells #[.int .i64 1, .int .i64 2000, .int .i64 0, .int .i64 0, .int .i64 2, .int .i64 2000, .int .i64 0, .int .i64 0, .int .i64 3, .int .i64 125, .int .i64 0, .int .i64 0, .int .i64 4, .int .i64 125, .int .i64 0, .int .i64 0, .int .i64 5, .int .i64 0, .int .i64 1, .int .i64 0, .int .i64 6, .int .i64 0, .int .i64 0, .int .i64 1, .int .i64 15, .int .i64 0, .int .i64 1968, .int .i64 0, .int .i64 16, .int .i64 0, .int .i64 0, .int .i64 123, .int .i64 23, .int .i64 125, .int .i64 0, .int .i64 121] t frozen | o => o) }
set_option maxRecDepth 100000 in
theorem laid_met (os : Os) : laidMet Tryd.prog Rows.pduRepliesRow.laid ((laidWorld os).forCall (fun _ _ => 0) ⟨#[], #[.agg #[.int .i64 0, .int .i64 0, .int .i64 0, .int .i64 0, .slice none 0 0, .slice none 0 0], .agg #[.int .i64 0, .int .i64 0, .slice none 0 0, .slice none 0 0], .slice none 0 0], []⟩).memory :=
  laidMet_of_run' 8 (by kernel_rfl) (by kernel_rfl)
set_option maxRecDepth 100000 in
theorem reads (os : Os) {H : Type} (enc : TypeId × Value → H) : ∃ places, DataW.whole enc Tryd.prog ((laidWorld os).forCall (fun _ _ => 0) ⟨#[], #[.agg #[.int .i64 0, .int .i64 0, .int .i64 0, .int .i64 0, .slice none 0 0, .slice none 0 0], .agg #[.int .i64 0, .int .i64 0, .slice none 0 0, .slice none 0 0], .slice none 0 0], []⟩).memory Tryd.f5.params.toList Rows.pduRepliesSpec.vars false (#[.agg #[.int .i64 0, .int .i64 0, .int .i64 0, .int .i64 0, .slice none 0 0, .slice none 0 0], .agg #[.int .i64 0, .int .i64 0, .slice none 0 0, .slice none 0 0], .slice none 0 0] : Array Value).toList 8 = some ([.agg [.lit (.int .i64 0), .lit (.int .i64 0), .lit (.int .i64 0), .lit (.int .i64 0), .nil, .nil], .agg [.lit (.int .i64 0), .lit (.int .i64 0), .nil, .nil], .nil], [], places) :=
  ⟨[], by kernel_rfl⟩
set_option maxRecDepth 100000 in
theorem lifted (os : Os) (started : os.Started) (H : Type) (enc : TypeId × Value → H) (F : Stop.Interp) :
    ReturnsInHanded {} Tryd.checked os 5 .any ((OpenSpec.ofChange Rows.pduRepliesSpec).preRow enc Tryd.prog Tryd.f5 Rows.pduRepliesRow.domain false Rows.pduRepliesRow.laid) (((OpenSpec.ofChange Rows.pduRepliesSpec).at F).post enc Tryd.prog Tryd.f5 false true false false) := by
  obtain ⟨places, hx⟩ := reads os enc
  refine returnsInHanded_of_row (C := Tryd.checked) (s := OpenSpec.ofChange Rows.pduRepliesSpec) own started (by kernel_rfl) Tryd.func5
    (witness_row_at (enc := enc) (C := Tryd.checked) false (laidWorld os) #[.agg #[.int .i64 0, .int .i64 0, .int .i64 0, .int .i64 0, .slice none 0 0, .slice none 0 0], .agg #[.int .i64 0, .int .i64 0, .slice none 0 0, .slice none 0 0], .slice none 0 0] rfl (by kernel_rfl) (by kernel_rfl) (by kernel_rfl)
      (OpenSpec.preRow_of_cond 8 hx (by kernel_rfl) (fun k hk => by cases hk) (by kernel_rfl) (laid_met os))) ?_
  intro W base args ds gs before hval hW _ _ _ hL _ _
  exact contract H enc W base args ds gs before hval hW hL
theorem said : Rows.PduRepliesSaid :=
  OpenClaim.holds_of_cond 5 Tryd.f5 rfl rfl rfl rfl rfl rfl rfl ⟨rfl, rfl, rfl, rfl, rfl⟩ rfl rfl rfl rfl rfl (by kernel_rfl) Tryd.func5 (by kernel_rfl)
    (of_decide_eq_true (by kernel_rfl)) (by unfold Func.isWrapper; first | (rw [if_pos (by decide +kernel)]; kernel_rfl) | (rw [if_neg (by decide +kernel)]; exact ⟨rfl, rfl⟩))
    (fun os started H enc _ F => by rw [OpenClaim.pre_eq_preRow]; exact lifted os started H enc F)
theorem plain (f : FuncId) (fn : Func) (hf : Tryd.pinned.checked.prog.funcNamed "kilowatt/kilowattlaw19.PduReplies" = some f) (hfn : Tryd.pinned.checked.prog.funcs[f]? = some fn) :
    false = Tryd.pinned.checked.prog.looks [] ∧ ∀ (j : Nat) t, fn.params[j]? = some t → Tryd.pinned.checked.prog.wantsStandIn t = false := by
  obtain rfl : f = 5 := Option.some.inj ((show Tryd.prog.funcNamed "kilowatt/kilowattlaw19.PduReplies" = some 5 by kernel_rfl).symm.trans hf) |>.symm
  obtain rfl : fn = Tryd.f5 := (Option.some.inj (Tryd.func5.symm.trans hfn)).symm
  refine ⟨by kernel_rfl, fun j t ht => ?_⟩
  rw [Tryd.params5] at ht
  have hm : t ∈ ([25, 34, 28] : List Nat) := by simpa using Array.mem_of_getElem? ht
  have hall : (([25, 34, 28] : List Nat).all fun u => !Tryd.prog.wantsStandIn u) = true := by kernel_rfl
  exact (show Tryd.prog.wantsStandIn t = false by simpa using List.all_eq_true.1 hall t hm)
/-- The statement: the card. -/
theorem proved : Rows.PduRepliesCardSaid :=
  Claim7.holds_tied_plain_at .later [] _ _ _ _ said (fun _ h => by cases h) (by kernel_rfl) (fun _ h => by cases h) pduReplies_row_tie rfl ⟨rfl, rfl⟩ (by kernel_rfl) rfl plain (by kernel_rfl)
#print axioms proved
end Go.Proofs.YtflbiichdjhaeaaDoor.pduReplies
