/- The law BusActs: whether an act may be, its bytes and its line are the document's, for every request, act and kind. -/
import Derived.Test.YtcipleanckeoaaaDoorRows
import Derived.Test.YtcipleanckeoaaaDoorCards
import Derived.Test.YtcipleanckeoaaaDoorTie
import Derived.Test.YtcipleanckeoaaaDoorZCommon
import Derived.Test.YtcipleanckeoaaaDoorZBusRow
import Derived.Test.YtcipleanckeoaaaDoorZBusActsW
import Derived.WalkKit
import Derived.ProofKit
import Derived.OpenShut
import Derived.ShutString
import Derived.ChangeOld
import Derived.Below
import Derived.ChangeArms
import Derived.Deep.DeepHandedRow
import Derived.Lib.LaidTab
import Derived.Stop.LaidErr
namespace Go.Proofs.YtcipleanckeoaaaDoor.busActs
open Go.ChangeShapes Go.WideShapes Go.ChangeAt Go.RowKit
open Go.ChangeMaps (open_string shut_string)
set_option linter.unusedVariables false
theorem own : ownKnob Tryd.prog.godebug = none := by kernel_rfl
theorem laidOut : laidOutB Tryd.prog = true := by kernel_rfl
theorem g_0 : Tryd.prog.globalNamed "math/bits.deBruijn32tab" = some 3 := by kernel_rfl
theorem gt_0 : (Tryd.prog.globals[3]?).map (·.type) = some 231 := by kernel_rfl
theorem tab_0 {W : World} (h : laidMet Tryd.prog Rows.busActsRow.laid W) : Tab W 3 .u8 [0, 1, 28, 2, 29, 14, 24, 3, 30, 22, 20, 15, 25, 17, 4, 8, 31, 27, 13, 23, 21, 19, 16, 7, 26, 12, 18, 6, 11, 5, 10, 9] := by
 have h1 : Lib.TabIs Tryd.prog W "math/bits.deBruijn32tab" .u8 [0, 1, 28, 2, 29, 14, 24, 3, 30, 22, 20, 15, 25, 17, 4, 8, 31, 27, 13, 23, 21, 19, 16, 7, 26, 12, 18, 6, 11, 5, 10, 9] := Lib.tabIs_of_head g_0 gt_0 Tryd.underlying231 Tryd.underlying5 (by kernel_rfl) (by kernel_rfl) h
 exact fun i hi => h1.cell g_0 i hi
theorem lab_0 {W : World} (h : laidMet Tryd.prog Rows.busActsRow.laid W) : Lib.TabIs Tryd.prog W "math/bits.deBruijn32tab" .u8 [0, 1, 28, 2, 29, 14, 24, 3, 30, 22, 20, 15, 25, 17, 4, 8, 31, 27, 13, 23, 21, 19, 16, 7, 26, 12, 18, 6, 11, 5, 10, 9] :=
 Lib.tabIs_of_head g_0 gt_0 Tryd.underlying231 Tryd.underlying5 (by kernel_rfl) (by kernel_rfl) h
theorem g_1 : Tryd.prog.globalNamed "math/bits.deBruijn64tab" = some 4 := by kernel_rfl
theorem gt_1 : (Tryd.prog.globals[4]?).map (·.type) = some 232 := by kernel_rfl
theorem tab_1 {W : World} (h : laidMet Tryd.prog Rows.busActsRow.laid W) : Tab W 4 .u8 [0, 1, 56, 2, 57, 49, 28, 3, 61, 58, 42, 50, 38, 29, 17, 4, 62, 47, 59, 36, 45, 43, 51, 22, 53, 39, 33, 30, 24, 18, 12, 5, 63, 55, 48, 27, 60, 41, 37, 16, 46, 35, 44, 21, 52, 32, 23, 11, 54, 26, 40, 15, 34, 20, 31, 10, 25, 14, 19, 9, 13, 8, 7, 6] := by
 have h1 : Lib.TabIs Tryd.prog W "math/bits.deBruijn64tab" .u8 [0, 1, 56, 2, 57, 49, 28, 3, 61, 58, 42, 50, 38, 29, 17, 4, 62, 47, 59, 36, 45, 43, 51, 22, 53, 39, 33, 30, 24, 18, 12, 5, 63, 55, 48, 27, 60, 41, 37, 16, 46, 35, 44, 21, 52, 32, 23, 11, 54, 26, 40, 15, 34, 20, 31, 10, 25, 14, 19, 9, 13, 8, 7, 6] := Lib.tabIs_of_head g_1 gt_1 Tryd.underlying232 Tryd.underlying5 (by kernel_rfl) (by kernel_rfl) (laidMet.tail h)
 exact fun i hi => h1.cell g_1 i hi
theorem lab_1 {W : World} (h : laidMet Tryd.prog Rows.busActsRow.laid W) : Lib.TabIs Tryd.prog W "math/bits.deBruijn64tab" .u8 [0, 1, 56, 2, 57, 49, 28, 3, 61, 58, 42, 50, 38, 29, 17, 4, 62, 47, 59, 36, 45, 43, 51, 22, 53, 39, 33, 30, 24, 18, 12, 5, 63, 55, 48, 27, 60, 41, 37, 16, 46, 35, 44, 21, 52, 32, 23, 11, 54, 26, 40, 15, 34, 20, 31, 10, 25, 14, 19, 9, 13, 8, 7, 6] :=
 Lib.tabIs_of_head g_1 gt_1 Tryd.underlying232 Tryd.underlying5 (by kernel_rfl) (by kernel_rfl) (laidMet.tail h)
theorem g_2 : Tryd.prog.globalNamed "internal/strconv.uint64pow10" = some 2 := by kernel_rfl
theorem gt_2 : (Tryd.prog.globals[2]?).map (·.type) = some 219 := by kernel_rfl
theorem tab_2 {W : World} (h : laidMet Tryd.prog Rows.busActsRow.laid W) : Tab W 2 .u64 [1, 10, 100, 1000, 10000, 100000, 1000000, 10000000, 100000000, 1000000000, 10000000000, 100000000000, 1000000000000, 10000000000000, 100000000000000, 1000000000000000, 10000000000000000, 100000000000000000, 1000000000000000000, 10000000000000000000] := by
 have h1 : Lib.TabIs Tryd.prog W "internal/strconv.uint64pow10" .u64 [1, 10, 100, 1000, 10000, 100000, 1000000, 10000000, 100000000, 1000000000, 10000000000, 100000000000, 1000000000000, 10000000000000, 100000000000000, 1000000000000000, 10000000000000000, 100000000000000000, 1000000000000000000, 10000000000000000000] := Lib.tabIs_of_head g_2 gt_2 Tryd.underlying219 Tryd.underlying150 (by kernel_rfl) (by kernel_rfl) (laidMet.tail (laidMet.tail h))
 exact fun i hi => h1.cell g_2 i hi
theorem lab_2 {W : World} (h : laidMet Tryd.prog Rows.busActsRow.laid W) : Lib.TabIs Tryd.prog W "internal/strconv.uint64pow10" .u64 [1, 10, 100, 1000, 10000, 100000, 1000000, 10000000, 100000000, 1000000000, 10000000000, 100000000000, 1000000000000, 10000000000000, 100000000000000, 1000000000000000, 10000000000000000, 100000000000000000, 1000000000000000000, 10000000000000000000] :=
 Lib.tabIs_of_head g_2 gt_2 Tryd.underlying219 Tryd.underlying150 (by kernel_rfl) (by kernel_rfl) (laidMet.tail (laidMet.tail h))
theorem g_3 : Tryd.prog.globalNamed "kilowatt/pdu.limits" = some 1 := by kernel_rfl
theorem gt_3 : (Tryd.prog.globals[1]?).map (·.type) = some 207 := by kernel_rfl
theorem g_4 : Tryd.prog.globalNamed "kilowatt/bus.names" = some 0 := by kernel_rfl
theorem gt_4 : (Tryd.prog.globals[0]?).map (·.type) = some 122 := by kernel_rfl
theorem tabw_4 {W : World} (h : laidMet Tryd.prog Rows.busActsRow.laid W) : NamesT W := names_of_head rfl (laidMet.tail (laidMet.tail (laidMet.tail (laidMet.tail h))))
set_option maxRecDepth 100000 in
theorem range_3 {W : World} (h : laidMet Tryd.prog Rows.busActsRow.laid W) : W.rangeAt 1 0 [.int .i64 1, .int .i64 2000, .int .i64 0, .int .i64 0, .int .i64 2, .int .i64 2000, .int .i64 0, .int .i64 0, .int .i64 3, .int .i64 125, .int .i64 0, .int .i64 0, .int .i64 4, .int .i64 125, .int .i64 0, .int .i64 0, .int .i64 5, .int .i64 0, .int .i64 1, .int .i64 0, .int .i64 6, .int .i64 0, .int .i64 0, .int .i64 1, .int .i64 15, .int .i64 0, .int .i64 1968, .int .i64 0, .int .i64 16, .int .i64 0, .int .i64 0, .int .i64 123, .int .i64 23, .int .i64 125, .int .i64 0, .int .i64 121] := by
 refine range_of_head (rows := [[1, 2000, 0, 0], [2, 2000, 0, 0], [3, 125, 0, 0], [4, 125, 0, 0], [5, 0, 1, 0], [6, 0, 0, 1], [15, 0, 1968, 0], [16, 0, 0, 123], [23, 125, 0, 121]]) (m := 4) g_3 gt_3 Tryd.underlying207 Tryd.underlying167 (by kernel_rfl) (by kernel_rfl) rfl ?_ rfl ?_ (laidMet.tail (laidMet.tail (laidMet.tail h)))
 ·intro j f hj
  match j, hj with
  | 0, hj => obtain rfl := (Option.some.inj hj); exact ⟨rfl, by kernel_rfl, by kernel_rfl⟩
  | 1, hj => obtain rfl := (Option.some.inj hj); exact ⟨rfl, by kernel_rfl, by kernel_rfl⟩
  | 2, hj => obtain rfl := (Option.some.inj hj); exact ⟨rfl, by kernel_rfl, by kernel_rfl⟩
  | 3, hj => obtain rfl := (Option.some.inj hj); exact ⟨rfl, by kernel_rfl, by kernel_rfl⟩
  | _ + 4, hj => cases hj
 ·intro i v hi
  match i, hi with
  | 0, hi => exact ⟨_, _, rfl, rfl, (Option.some.inj hi).symm⟩
  | 1, hi => exact ⟨_, _, rfl, rfl, (Option.some.inj hi).symm⟩
  | 2, hi => exact ⟨_, _, rfl, rfl, (Option.some.inj hi).symm⟩
  | 3, hi => exact ⟨_, _, rfl, rfl, (Option.some.inj hi).symm⟩
  | 4, hi => exact ⟨_, _, rfl, rfl, (Option.some.inj hi).symm⟩
  | 5, hi => exact ⟨_, _, rfl, rfl, (Option.some.inj hi).symm⟩
  | 6, hi => exact ⟨_, _, rfl, rfl, (Option.some.inj hi).symm⟩
  | 7, hi => exact ⟨_, _, rfl, rfl, (Option.some.inj hi).symm⟩
  | 8, hi => exact ⟨_, _, rfl, rfl, (Option.some.inj hi).symm⟩
  | 9, hi => exact ⟨_, _, rfl, rfl, (Option.some.inj hi).symm⟩
  | 10, hi => exact ⟨_, _, rfl, rfl, (Option.some.inj hi).symm⟩
  | 11, hi => exact ⟨_, _, rfl, rfl, (Option.some.inj hi).symm⟩
  | 12, hi => exact ⟨_, _, rfl, rfl, (Option.some.inj hi).symm⟩
  | 13, hi => exact ⟨_, _, rfl, rfl, (Option.some.inj hi).symm⟩
  | 14, hi => exact ⟨_, _, rfl, rfl, (Option.some.inj hi).symm⟩
  | 15, hi => exact ⟨_, _, rfl, rfl, (Option.some.inj hi).symm⟩
  | 16, hi => exact ⟨_, _, rfl, rfl, (Option.some.inj hi).symm⟩
  | 17, hi => exact ⟨_, _, rfl, rfl, (Option.some.inj hi).symm⟩
  | 18, hi => exact ⟨_, _, rfl, rfl, (Option.some.inj hi).symm⟩
  | 19, hi => exact ⟨_, _, rfl, rfl, (Option.some.inj hi).symm⟩
  | 20, hi => exact ⟨_, _, rfl, rfl, (Option.some.inj hi).symm⟩
  | 21, hi => exact ⟨_, _, rfl, rfl, (Option.some.inj hi).symm⟩
  | 22, hi => exact ⟨_, _, rfl, rfl, (Option.some.inj hi).symm⟩
  | 23, hi => exact ⟨_, _, rfl, rfl, (Option.some.inj hi).symm⟩
  | 24, hi => exact ⟨_, _, rfl, rfl, (Option.some.inj hi).symm⟩
  | 25, hi => exact ⟨_, _, rfl, rfl, (Option.some.inj hi).symm⟩
  | 26, hi => exact ⟨_, _, rfl, rfl, (Option.some.inj hi).symm⟩
  | 27, hi => exact ⟨_, _, rfl, rfl, (Option.some.inj hi).symm⟩
  | 28, hi => exact ⟨_, _, rfl, rfl, (Option.some.inj hi).symm⟩
  | 29, hi => exact ⟨_, _, rfl, rfl, (Option.some.inj hi).symm⟩
  | 30, hi => exact ⟨_, _, rfl, rfl, (Option.some.inj hi).symm⟩
  | 31, hi => exact ⟨_, _, rfl, rfl, (Option.some.inj hi).symm⟩
  | 32, hi => exact ⟨_, _, rfl, rfl, (Option.some.inj hi).symm⟩
  | 33, hi => exact ⟨_, _, rfl, rfl, (Option.some.inj hi).symm⟩
  | 34, hi => exact ⟨_, _, rfl, rfl, (Option.some.inj hi).symm⟩
  | 35, hi => exact ⟨_, _, rfl, rfl, (Option.some.inj hi).symm⟩
  | _ + 36, hi => cases hi
theorem list_9 {α : Type} {l : List α} (h : l.length = 9) : ∃ c0 c1 c2 c3 c4 c5 c6 c7 c8, l = [c0, c1, c2, c3, c4, c5, c6, c7, c8] := by
 match l, h with
 | [c0, c1, c2, c3, c4, c5, c6, c7, c8], _ => exact ⟨c0, c1, c2, c3, c4, c5, c6, c7, c8, rfl⟩
theorem walk (a0 : Option Addr) (n0 c0 : Nat) (x0 : List Int) (a1_1 : Int) (a1_2 : Int) (a1_3 : Int) (a1_4 : Option Addr) (n1_4 c1_4 : Nat) (x1_4 : List Int) (a1_5 : Int) (a1_6 : Int) (a1_7 : Int) (a1_8 : Int) (a1_9 : Option Addr) (n1_9 c1_9 : Nat) (x1_9 : List Int) (a2 : Int) (w : World) (l0 : Lib.TabIs Tryd.prog w "math/bits.deBruijn32tab" .u8 [0, 1, 28, 2, 29, 14, 24, 3, 30, 22, 20, 15, 25, 17, 4, 8, 31, 27, 13, 23, 21, 19, 16, 7, 26, 12, 18, 6, 11, 5, 10, 9]) (l1 : Lib.TabIs Tryd.prog w "math/bits.deBruijn64tab" .u8 [0, 1, 56, 2, 57, 49, 28, 3, 61, 58, 42, 50, 38, 29, 17, 4, 62, 47, 59, 36, 45, 43, 51, 22, 53, 39, 33, 30, 24, 18, 12, 5, 63, 55, 48, 27, 60, 41, 37, 16, 46, 35, 44, 21, 52, 32, 23, 11, 54, 26, 40, 15, 34, 20, 31, 10, 25, 14, 19, 9, 13, 8, 7, 6]) (l2 : Lib.TabIs Tryd.prog w "internal/strconv.uint64pow10" .u64 [1, 10, 100, 1000, 10000, 100000, 1000000, 10000000, 100000000, 1000000000, 10000000000, 100000000000, 1000000000000, 10000000000000, 100000000000000, 1000000000000000, 10000000000000000, 100000000000000000, 1000000000000000000, 10000000000000000000]) (t0 : Tab w 3 .u8 [0, 1, 28, 2, 29, 14, 24, 3, 30, 22, 20, 15, 25, 17, 4, 8, 31, 27, 13, 23, 21, 19, 16, 7, 26, 12, 18, 6, 11, 5, 10, 9]) (t1 : Tab w 4 .u8 [0, 1, 56, 2, 57, 49, 28, 3, 61, 58, 42, 50, 38, 29, 17, 4, 62, 47, 59, 36, 45, 43, 51, 22, 53, 39, 33, 30, 24, 18, 12, 5, 63, 55, 48, 27, 60, 41, 37, 16, 46, 35, 44, 21, 52, 32, 23, 11, 54, 26, 40, 15, 34, 20, 31, 10, 25, 14, 19, 9, 13, 8, 7, 6]) (t2 : Tab w 2 .u64 [1, 10, 100, 1000, 10000, 100000, 1000000, 10000000, 100000000, 1000000000, 10000000000, 100000000000, 1000000000000, 10000000000000, 100000000000000, 1000000000000000, 10000000000000000, 100000000000000000, 1000000000000000000, 10000000000000000000]) (t3 : w.rangeAt 1 0 [.int .i64 1, .int .i64 2000, .int .i64 0, .int .i64 0, .int .i64 2, .int .i64 2000, .int .i64 0, .int .i64 0, .int .i64 3, .int .i64 125, .int .i64 0, .int .i64 0, .int .i64 4, .int .i64 125, .int .i64 0, .int .i64 0, .int .i64 5, .int .i64 0, .int .i64 1, .int .i64 0, .int .i64 6, .int .i64 0, .int .i64 0, .int .i64 1, .int .i64 15, .int .i64 0, .int .i64 1968, .int .i64 0, .int .i64 16, .int .i64 0, .int .i64 0, .int .i64 123, .int .i64 23, .int .i64 125, .int .i64 0, .int .i64 121]) (t4 : NamesT w) (s0 : SlI w w.heap.size .u8 a0 n0 c0 x0) (b0 : ∀ x ∈ x0, (Lit.int .u8 x).wf = true) (w1_1 : (Lit.int .i64 a1_1).wf = true) (w1_2 : (Lit.int .i64 a1_2).wf = true) (w1_3 : (Lit.int .i64 a1_3).wf = true) (s1_4 : SlI w w.heap.size .u16 a1_4 n1_4 c1_4 x1_4) (b1_4 : ∀ x ∈ x1_4, (Lit.int .u16 x).wf = true) (w1_5 : (Lit.int .i64 a1_5).wf = true) (w1_6 : (Lit.int .i64 a1_6).wf = true) (w1_7 : (Lit.int .i64 a1_7).wf = true) (w1_8 : (Lit.int .u8 a1_8).wf = true) (s1_9 : SlI w w.heap.size .u8 a1_9 n1_9 c1_9 x1_9) (b1_9 : ∀ x ∈ x1_9, (Lit.int .u8 x).wf = true) (w2 : (Lit.int .i64 a2).wf = true) :
  Calls Tryd.prog 6 #[.slice a0 n0 c0, .agg #[.int .i64 a1_1, .int .i64 a1_2, .int .i64 a1_3, .slice a1_4 n1_4 c1_4, .int .i64 a1_5, .int .i64 a1_6, .int .i64 a1_7, .int .u8 a1_8, .slice a1_9 n1_9 c1_9], .int .i64 a2] w fun e w' => e = .returned (.bool true) ∧ Below w.heap.size w w' := by
 have hp : P10 w := by
  have e : Lib.pow10Tab = [1, 10, 100, 1000, 10000, 100000, 1000000, 10000000, 100000000, 1000000000, 10000000000, 100000000000, 1000000000000, 10000000000000, 100000000000000, 1000000000000000, 10000000000000000, 100000000000000000, 1000000000000000000, 10000000000000000000] := by decide +kernel
  show Lib.TabIs Tryd.prog w "internal/strconv.uint64pow10" .u64 Lib.pow10Tab
  rw [e]
  exact l2
 exact acts_any a0 n0 c0 x0 a1_4 n1_4 c1_4 a1_9 n1_9 c1_9 a1_1 a1_2 a1_3 x1_4 a1_5 a1_6 a1_7 a1_8 x1_9 a2 w t3 t4 hp s0 (fun x hx => by have := bounds_u8 (b0 x hx); omega) s1_4 s1_9 ⟨bounds_i64 w1_2, bounds_i64 w1_3, (by have := bounds_u8 w1_8; show 0 ≤ a1_8 ∧ a1_8 < 256; omega), (fun x hx => by have := bounds_u16 (b1_4 x hx); omega), (fun x hx => by have := bounds_u8 (b1_9 x hx); omega), bounds_i64 w1_5⟩
set_option maxHeartbeats 4000000 in
set_option maxRecDepth 100000 in
theorem contract (H : Type) (enc : TypeId × Value → H) (W : World) (base : Nat) (args : Array Value) (ds gs : List (DataW H)) (before : List MemPlace)
  (hval0 : ∀ (j : Nat) t v, Tryd.f6.params[j]? = some t → args[j]? = some v → Value.okWide Tryd.prog W .any base t v)
  (hW : DataW.Whole enc Tryd.prog Tryd.f6.params.toList Rows.busActsSpec.vars false W args.toList ds gs before) (hL : laidMet Tryd.prog Rows.busActsRow.laid W) :
  Calls Tryd.prog 6 args W fun e W' => ∃ v, e = .returned v ∧ Rows.busActsSpec.post enc Tryd.prog Tryd.f6 false true false false W args v W' := by
 have hval : ∀ (j : Nat) t v, Tryd.f6.params[j]? = some t → args[j]? = some v → Value.okWide Tryd.prog W .any base t v := hval0
 have hW' := hW
 obtain ⟨p, q, hA0, hV, rfl, hfz, hnd⟩ := hW
 have hA : DataW.TrodAll enc Tryd.prog W 0 (fun _ => true) true Tryd.f6.params.toList args.toList ds p := hA0
 rw [Tryd.params6] at hA hval
 obtain ⟨v0, vs0, d0, ds0, p0, q0, hargs, rfl, rfl, h0, r0⟩ := trodAll_cons hA
 obtain ⟨v1, vs1, d1, ds1, p1, q1, rfl, rfl, rfl, h1, r1⟩ := trodAll_cons r0
 obtain ⟨v2, vs2, d2, ds2, p2, q2, rfl, rfl, rfl, h2, r2⟩ := trodAll_cons r1
 obtain ⟨rfl, rfl, rfl⟩ := trodAll_nil r2
 obtain rfl : args = #[v0, v1, v2] := by cases args; simp_all
 obtain ⟨rfl, rfl⟩ := trodVars_none hV
 obtain ⟨a0, n0, c0, rfl⟩ := okWide_slice Tryd.underlying22 (hval 0 22 v0 rfl rfl)
 have k0 := h0
 have lt0 : ∀ x ∈ p0, x.block < W.heap.size := by obtain ⟨m, hm⟩ := k0; exact DataW.trod_lt m _ _ _ hm
 obtain ⟨f0', hf0'⟩ := h0
 obtain ⟨x0, s0, b0⟩ : ∃ xs, SlI W W.heap.size .u8 a0 n0 c0 xs ∧ ∀ x ∈ xs, (Lit.int .u8 x).wf = true := by
  rcases open_ints Tryd.underlying22 Tryd.underlying5 (by kernel_rfl) hf0' with ⟨hcs, _⟩ | ⟨x, l, c, zs, hcs, _, hl, hm, hz, _, hcell, hwz⟩
  ·simp [Value.cells] at hcs
   obtain ⟨rfl, rfl, rfl⟩ := hcs
   exact ⟨[], SlI.nil _ _ _, by simp⟩
  ·simp [Value.cells] at hcs
   obtain ⟨rfl, rfl, rfl⟩ := hcs
   exact ⟨zs.take _, SlI.of_row hl hm (by simpa using hz) hcell, fun y hy => hwz y (List.mem_of_mem_take hy)⟩
 obtain ⟨⟨cc1⟩, rfl, sz1⟩ := okWide_struct Tryd.underlying29 (hval 1 29 v1 rfl rfl)
 have k1 := h1
 have lt1 : ∀ x ∈ p1, x.block < W.heap.size := by obtain ⟨m, hm⟩ := k1; exact DataW.trod_lt m _ _ _ hm
 obtain ⟨q1_0, q1_1, q1_2, q1_3, q1_4, q1_5, q1_6, q1_7, q1_8, rfl⟩ := list_9 (show cc1.length = 9 from sz1.trans (by kernel_rfl))
 obtain ⟨f1', hf1'⟩ := h1
 simp only [Value.cells] at hf1'
 obtain ⟨xs1', m1', _, _, _, len1', at1'⟩ := DataW.trod_struct Tryd.underlying29 hf1'
 have g2' : DataW.trod enc Tryd.prog W 0 (fun _ => true) true m1' 3 (([q1_0, q1_1, q1_2, q1_3, q1_4, q1_5, q1_6, q1_7, q1_8].drop 0).take (Tryd.prog.cellsOf 3)) = xs1'[0]? := at1' 0 _ rfl
 rw [show xs1'[0]? = some (xs1'[0]'(by rw [len1']; decide)) from List.getElem?_eq_getElem _, show Tryd.prog.cellsOf 3 = 1 by kernel_rfl] at g2'
 simp only [List.drop_zero, List.take_succ_cons, List.take_zero] at g2'
 obtain ⟨a1_1, e2', _, w1_1⟩ := DataW.trod_int Tryd.underlying3 g2'
 obtain rfl : q1_0 = .int .i64 a1_1 := by simpa using e2'
 have g3' : DataW.trod enc Tryd.prog W 0 (fun _ => true) true m1' 2 (([.int .i64 a1_1, q1_1, q1_2, q1_3, q1_4, q1_5, q1_6, q1_7, q1_8].drop 1).take (Tryd.prog.cellsOf 2)) = xs1'[1]? := at1' 1 _ rfl
 rw [show xs1'[1]? = some (xs1'[1]'(by rw [len1']; decide)) from List.getElem?_eq_getElem _, show Tryd.prog.cellsOf 2 = 1 by kernel_rfl] at g3'
 simp only [List.drop_zero, List.drop_succ_cons, List.take_succ_cons, List.take_zero] at g3'
 obtain ⟨a1_2, e3', _, w1_2⟩ := DataW.trod_int Tryd.underlying2 g3'
 obtain rfl : q1_1 = .int .i64 a1_2 := by simpa using e3'
 have g4' : DataW.trod enc Tryd.prog W 0 (fun _ => true) true m1' 2 (([.int .i64 a1_1, .int .i64 a1_2, q1_2, q1_3, q1_4, q1_5, q1_6, q1_7, q1_8].drop 2).take (Tryd.prog.cellsOf 2)) = xs1'[2]? := at1' 2 _ rfl
 rw [show xs1'[2]? = some (xs1'[2]'(by rw [len1']; decide)) from List.getElem?_eq_getElem _, show Tryd.prog.cellsOf 2 = 1 by kernel_rfl] at g4'
 simp only [List.drop_zero, List.drop_succ_cons, List.take_succ_cons, List.take_zero] at g4'
 obtain ⟨a1_3, e4', _, w1_3⟩ := DataW.trod_int Tryd.underlying2 g4'
 obtain rfl : q1_2 = .int .i64 a1_3 := by simpa using e4'
 have g5' : DataW.trod enc Tryd.prog W 0 (fun _ => true) true m1' 27 (([.int .i64 a1_1, .int .i64 a1_2, .int .i64 a1_3, q1_3, q1_4, q1_5, q1_6, q1_7, q1_8].drop 3).take (Tryd.prog.cellsOf 27)) = xs1'[3]? := at1' 3 _ rfl
 rw [show xs1'[3]? = some (xs1'[3]'(by rw [len1']; decide)) from List.getElem?_eq_getElem _, show Tryd.prog.cellsOf 27 = 1 by kernel_rfl] at g5'
 simp only [List.drop_zero, List.drop_succ_cons, List.take_succ_cons, List.take_zero] at g5'
 obtain ⟨a1_4, n1_4, c1_4, x1_4, e5', s1_4, b1_4⟩ : ∃ a n c xs, q1_3 = .slice a n c ∧ SlI W W.heap.size .u16 a n c xs ∧ ∀ x ∈ xs, (Lit.int .u16 x).wf = true := by
  rcases open_ints Tryd.underlying27 Tryd.underlying45 (by kernel_rfl) g5' with ⟨hcs, _⟩ | ⟨x, l, c, zs, hcs, _, hl, hm, hz, _, hcell, hwz⟩
  ·exact ⟨none, 0, 0, [], by simpa using hcs, SlI.nil _ _ _, by simp⟩
  ·exact ⟨some x, l, c, zs.take _, by simpa using hcs, SlI.of_row hl hm (by simpa using hz) hcell, fun y hy => hwz y (List.mem_of_mem_take hy)⟩
 subst e5'
 have g6' : DataW.trod enc Tryd.prog W 0 (fun _ => true) true m1' 3 (([.int .i64 a1_1, .int .i64 a1_2, .int .i64 a1_3, .slice a1_4 n1_4 c1_4, q1_4, q1_5, q1_6, q1_7, q1_8].drop 4).take (Tryd.prog.cellsOf 3)) = xs1'[4]? := at1' 4 _ rfl
 rw [show xs1'[4]? = some (xs1'[4]'(by rw [len1']; decide)) from List.getElem?_eq_getElem _, show Tryd.prog.cellsOf 3 = 1 by kernel_rfl] at g6'
 simp only [List.drop_zero, List.drop_succ_cons, List.take_succ_cons, List.take_zero] at g6'
 obtain ⟨a1_5, e6', _, w1_5⟩ := DataW.trod_int Tryd.underlying3 g6'
 obtain rfl : q1_4 = .int .i64 a1_5 := by simpa using e6'
 have g7' : DataW.trod enc Tryd.prog W 0 (fun _ => true) true m1' 3 (([.int .i64 a1_1, .int .i64 a1_2, .int .i64 a1_3, .slice a1_4 n1_4 c1_4, .int .i64 a1_5, q1_5, q1_6, q1_7, q1_8].drop 5).take (Tryd.prog.cellsOf 3)) = xs1'[5]? := at1' 5 _ rfl
 rw [show xs1'[5]? = some (xs1'[5]'(by rw [len1']; decide)) from List.getElem?_eq_getElem _, show Tryd.prog.cellsOf 3 = 1 by kernel_rfl] at g7'
 simp only [List.drop_zero, List.drop_succ_cons, List.take_succ_cons, List.take_zero] at g7'
 obtain ⟨a1_6, e7', _, w1_6⟩ := DataW.trod_int Tryd.underlying3 g7'
 obtain rfl : q1_5 = .int .i64 a1_6 := by simpa using e7'
 have g8' : DataW.trod enc Tryd.prog W 0 (fun _ => true) true m1' 3 (([.int .i64 a1_1, .int .i64 a1_2, .int .i64 a1_3, .slice a1_4 n1_4 c1_4, .int .i64 a1_5, .int .i64 a1_6, q1_6, q1_7, q1_8].drop 6).take (Tryd.prog.cellsOf 3)) = xs1'[6]? := at1' 6 _ rfl
 rw [show xs1'[6]? = some (xs1'[6]'(by rw [len1']; decide)) from List.getElem?_eq_getElem _, show Tryd.prog.cellsOf 3 = 1 by kernel_rfl] at g8'
 simp only [List.drop_zero, List.drop_succ_cons, List.take_succ_cons, List.take_zero] at g8'
 obtain ⟨a1_7, e8', _, w1_7⟩ := DataW.trod_int Tryd.underlying3 g8'
 obtain rfl : q1_6 = .int .i64 a1_7 := by simpa using e8'
 have g9' : DataW.trod enc Tryd.prog W 0 (fun _ => true) true m1' 5 (([.int .i64 a1_1, .int .i64 a1_2, .int .i64 a1_3, .slice a1_4 n1_4 c1_4, .int .i64 a1_5, .int .i64 a1_6, .int .i64 a1_7, q1_7, q1_8].drop 7).take (Tryd.prog.cellsOf 5)) = xs1'[7]? := at1' 7 _ rfl
 rw [show xs1'[7]? = some (xs1'[7]'(by rw [len1']; decide)) from List.getElem?_eq_getElem _, show Tryd.prog.cellsOf 5 = 1 by kernel_rfl] at g9'
 simp only [List.drop_zero, List.drop_succ_cons, List.take_succ_cons, List.take_zero] at g9'
 obtain ⟨a1_8, e9', _, w1_8⟩ := DataW.trod_int Tryd.underlying5 g9'
 obtain rfl : q1_7 = .int .u8 a1_8 := by simpa using e9'
 have g10' : DataW.trod enc Tryd.prog W 0 (fun _ => true) true m1' 22 (([.int .i64 a1_1, .int .i64 a1_2, .int .i64 a1_3, .slice a1_4 n1_4 c1_4, .int .i64 a1_5, .int .i64 a1_6, .int .i64 a1_7, .int .u8 a1_8, q1_8].drop 8).take (Tryd.prog.cellsOf 22)) = xs1'[8]? := at1' 8 _ rfl
 rw [show xs1'[8]? = some (xs1'[8]'(by rw [len1']; decide)) from List.getElem?_eq_getElem _, show Tryd.prog.cellsOf 22 = 1 by kernel_rfl] at g10'
 simp only [List.drop_zero, List.drop_succ_cons, List.take_succ_cons, List.take_zero] at g10'
 obtain ⟨a1_9, n1_9, c1_9, x1_9, e10', s1_9, b1_9⟩ : ∃ a n c xs, q1_8 = .slice a n c ∧ SlI W W.heap.size .u8 a n c xs ∧ ∀ x ∈ xs, (Lit.int .u8 x).wf = true := by
  rcases open_ints Tryd.underlying22 Tryd.underlying5 (by kernel_rfl) g10' with ⟨hcs, _⟩ | ⟨x, l, c, zs, hcs, _, hl, hm, hz, _, hcell, hwz⟩
  ·exact ⟨none, 0, 0, [], by simpa using hcs, SlI.nil _ _ _, by simp⟩
  ·exact ⟨some x, l, c, zs.take _, by simpa using hcs, SlI.of_row hl hm (by simpa using hz) hcell, fun y hy => hwz y (List.mem_of_mem_take hy)⟩
 subst e10'
 obtain ⟨a2, rfl, rfl, rfl, w2⟩ := open_int Tryd.underlying3 (hval 2 3 v2 rfl rfl) h2
 clear hA0 hval0
 refine (walk a0 n0 c0 x0 a1_1 a1_2 a1_3 a1_4 n1_4 c1_4 x1_4 a1_5 a1_6 a1_7 a1_8 a1_9 n1_9 c1_9 x1_9 a2 W (lab_0 hL) (lab_1 hL) (lab_2 hL) (tab_0 hL) (tab_1 hL) (tab_2 hL) (range_3 hL) (tabw_4 hL) s0 b0 w1_1 w1_2 w1_3 s1_4 b1_4 w1_5 w1_6 w1_7 w1_8 s1_9 b1_9 w2).mono fun e W' ⟨he, bel⟩ => ?_
 subst he
 exact ⟨_, rfl, _, _, _, [], _, [], hW', trodAll_mk1 (shut_bool Tryd.underlying4 _), (trodAll_cons_mk (Below.trod laidOut (by kernel_rfl) (of_decide_eq_true (by kernel_rfl)) k0 bel lt0) (trodAll_cons_mk (Below.trod laidOut (by kernel_rfl) (of_decide_eq_true (by kernel_rfl)) k1 bel lt1) (trodAll_cons_mk (shut_int Tryd.underlying3 w2) trodAll_mk0))), rfl, bel.frame _, fun h => by cases h⟩
noncomputable def laidWorld (os : Os) : World :=
 { World.holding Tryd.prog os ⟨#[], #[], []⟩ with heap := ((((((World.holding Tryd.prog os ⟨#[], #[], []⟩).heap.modify 3 fun | .cells _ t frozen => .cells #[.int .u8 0, .int .u8 1, .int .u8 28, .int .u8 2, .int .u8 29, .int .u8 14, .int .u8 24, .int .u8 3, .int .u8 30, .int .u8 22, .int .u8 20, .int .u8 15, .int .u8 25, .int .u8 17, .int .u8 4, .int .u8 8, .int .u8 31, .int .u8 27, .int .u8 13, .int .u8 23, .int .u8 21, .int .u8 19, .int .u8 16, .int .u8 7, .int .u8 26, .int .u8 12, .int .u8 18, .int .u8 6, .int .u8 11, .int .u8 5, .int .u8 10, .int .u8 9] t frozen | o => o).modify 4 fun | .cells _ t frozen => .cells #[.int .u8 0, .int .u8 1, .int .u8 56, .int .u8 2, .int .u8 57, .int .u8 49, .int .u8 28, .int .u8 3, .int .u8 61, .int .u8 58, .int .u8 42, .int .u8 50, .int .u8 38, .int .u8 29, .int .u8 17, .int .u8 4, .int .u8 62, .int .u8 47, .int .u8 59, .int .u8 36, .int .u8 45, .int .u8 43, .int .u8 51, .int .u8 22, .int .u8 53, .int .u8 39, .int .u8 33, .int .u8 30, .int .u8 24, .int .u8 18, .int .u8 12, .int .u8 5, .int .u8 63, .int .u8 55, .int .u8 48, .int .u8 27, .int .u8 60, .int .u8 41, .int .u8 37, .int .u8 16, .int .u8 46, .int .u8 35, .int .u8 44, .int .u8 21, .int .u8 52, .int .u8 32, .int .u8 23, .int .u8 11, .int .u8 54, .int .u8 26, .int .u8 40, .int .u8 15, .int .u8 34, .int .u8 20, .int .u8 31, .int .u8 10, .int .u8 25, .int .u8 14, .int .u8 19, .int .u8 9, .int .u8 13, .int .u8 8, .int .u8 7, .int .u8 6] t frozen | o => o).modify 2 fun | .cells _ t frozen => .cells #[.int .u64 1, .int .u64 10, .int .u64 100, .int .u64 1000, .int .u64 10000, .int .u64 100000, .int .u64 1000000, .int .u64 10000000, .int .u64 100000000, .int .u64 1000000000, .int .u64 10000000000, .int .u64 100000000000, .int .u64 1000000000000, .int .u64 10000000000000, .int .u64 100000000000000, .int .u64 1000000000000000, .int .u64 10000000000000000, .int .u64 100000000000000000, .int .u64 1000000000000000000, .int .u64 10000000000000000000] t frozen | o => o).modify 1 fun | .cells _ t frozen => .cells #[.int .i64 1, .int .i64 2000, .int .i64 0, .int .i64 0, .int .i64 2, .int .i64 2000, .int .i64 0, .int .i64 0, .int .i64 3, .int .i64 125, .int .i64 0, .int .i64 0, .int .i64 4, .int .i64 125, .int .i64 0, .int .i64 0, .int .i64 5, .int .i64 0, .int .i64 1, .int .i64 0, .int .i64 6, .int .i64 0, .int .i64 0, .int .i64 1, .int .i64 15, .int .i64 0, .int .i64 1968, .int .i64 0, .int .i64 16, .int .i64 0, .int .i64 0, .int .i64 123, .int .i64 23, .int .i64 125, .int .i64 0, .int .i64 121] t frozen | o => o).modify 0 fun | .cells _ t frozen => .cells #[.string ⟨([] : List UInt8).toArray⟩, .string ⟨([114, 105, 103, 104, 116] : List UInt8).toArray⟩, .string ⟨([114, 101, 102, 117, 115, 101] : List UInt8).toArray⟩, .string ⟨([115, 105, 108, 101, 110, 116] : List UInt8).toArray⟩, .string ⟨([99, 117, 116] : List UInt8).toArray⟩, .string ⟨([115, 112, 111, 105, 108] : List UInt8).toArray⟩, .string ⟨([111, 116, 104, 101, 114] : List UInt8).toArray⟩, .string ⟨([110, 111, 105, 115, 101] : List UInt8).toArray⟩] t frozen | o => o) }
set_option maxRecDepth 100000 in
theorem laid_met (os : Os) : laidMet Tryd.prog Rows.busActsRow.laid ((laidWorld os).forCall (fun _ _ => 0) ⟨#[], #[.slice none 0 0, .agg #[.int .i64 0, .int .i64 0, .int .i64 0, .slice none 0 0, .int .i64 0, .int .i64 0, .int .i64 0, .int .u8 0, .slice none 0 0], .int .i64 0], []⟩).memory :=
 laidMet_of_run' 8 (by kernel_rfl) (by kernel_rfl)
set_option maxRecDepth 100000 in
theorem reads (os : Os) {H : Type} (enc : TypeId × Value → H) : ∃ places, DataW.whole enc Tryd.prog ((laidWorld os).forCall (fun _ _ => 0) ⟨#[], #[.slice none 0 0, .agg #[.int .i64 0, .int .i64 0, .int .i64 0, .slice none 0 0, .int .i64 0, .int .i64 0, .int .i64 0, .int .u8 0, .slice none 0 0], .int .i64 0], []⟩).memory Tryd.f6.params.toList Rows.busActsSpec.vars false (#[.slice none 0 0, .agg #[.int .i64 0, .int .i64 0, .int .i64 0, .slice none 0 0, .int .i64 0, .int .i64 0, .int .i64 0, .int .u8 0, .slice none 0 0], .int .i64 0] : Array Value).toList 8 = some ([.nil, .agg [.lit (.int .i64 0), .lit (.int .i64 0), .lit (.int .i64 0), .nil, .lit (.int .i64 0), .lit (.int .i64 0), .lit (.int .i64 0), .lit (.int .u8 0), .nil], .lit (.int .i64 0)], [], places) :=
 ⟨[], by kernel_rfl⟩
set_option maxRecDepth 100000 in
theorem lifted (os : Os) (started : os.Started) (H : Type) (enc : TypeId × Value → H) (F : Stop.Interp) :
  ReturnsInHanded {} Tryd.checked os 6 .any ((OpenSpec.ofChange Rows.busActsSpec).preRow enc Tryd.prog Tryd.f6 Rows.busActsRow.domain false Rows.busActsRow.laid) (((OpenSpec.ofChange Rows.busActsSpec).at F).post enc Tryd.prog Tryd.f6 false true false false) := by
 obtain ⟨places, hx⟩ := reads os enc
 refine returnsInHanded_of_row (C := Tryd.checked) (s := OpenSpec.ofChange Rows.busActsSpec) own started (by kernel_rfl) Tryd.func6
  (witness_row_at (enc := enc) (C := Tryd.checked) false (laidWorld os) #[.slice none 0 0, .agg #[.int .i64 0, .int .i64 0, .int .i64 0, .slice none 0 0, .int .i64 0, .int .i64 0, .int .i64 0, .int .u8 0, .slice none 0 0], .int .i64 0] rfl (by kernel_rfl) (by kernel_rfl) (by kernel_rfl)
   (OpenSpec.preRow_of_cond 8 hx (by kernel_rfl) (fun k hk => by cases hk) (by kernel_rfl) (laid_met os))) ?_
 intro W base args ds gs before hval hW _ hcond _ hL _ _
 exact contract H enc W base args ds gs before hval hW hL
theorem said : Rows.BusActsSaid :=
 OpenClaim.holds_of_cond 6 Tryd.f6 rfl rfl rfl rfl rfl rfl rfl ⟨rfl, rfl, rfl, rfl, rfl⟩ rfl rfl rfl rfl rfl (by kernel_rfl) Tryd.func6 (by kernel_rfl)
  (of_decide_eq_true (by kernel_rfl)) (by unfold Func.isWrapper; first | (rw [if_pos (by decide +kernel)]; kernel_rfl) | (rw [if_neg (by decide +kernel)]; exact ⟨rfl, rfl⟩))
  (fun os started H enc _ F => by rw [OpenClaim.pre_eq_preRow]; exact lifted os started H enc F)
theorem plain (f : FuncId) (fn : Func) (hf : Tryd.pinned.checked.prog.funcNamed "kilowatt/kilowattlaw22.BusActs" = some f) (hfn : Tryd.pinned.checked.prog.funcs[f]? = some fn) :
  false = Tryd.pinned.checked.prog.looks [] ∧ ∀ (j : Nat) t, fn.params[j]? = some t → Tryd.pinned.checked.prog.wantsStandIn t = false := by
 obtain rfl : f = 6 := Option.some.inj ((show Tryd.prog.funcNamed "kilowatt/kilowattlaw22.BusActs" = some 6 by kernel_rfl).symm.trans hf) |>.symm
 obtain rfl : fn = Tryd.f6 := (Option.some.inj (Tryd.func6.symm.trans hfn)).symm
 refine ⟨by kernel_rfl, fun j t ht => ?_⟩
 rw [Tryd.params6] at ht
 have hm : t ∈ ([22, 29, 3] : List Nat) := by simpa using Array.mem_of_getElem? ht
 have hall : (([22, 29, 3] : List Nat).all fun u => !Tryd.prog.wantsStandIn u) = true := by kernel_rfl
 exact (show Tryd.prog.wantsStandIn t = false by simpa using List.all_eq_true.1 hall t hm)
theorem proved : Rows.BusActsCardSaid :=
 Claim7.holds_tied_plain_at .later [] _ _ _ _ said (fun _ h => by cases h) (by kernel_rfl) (fun _ h => by cases h) busActs_row_tie rfl ⟨rfl, rfl⟩ (by kernel_rfl) rfl plain (by kernel_rfl)
#print axioms proved
end Go.Proofs.YtcipleanckeoaaaDoor.busActs
