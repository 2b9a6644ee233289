/- The error, the kinds and the limit have their numbers; the chapter's examples; what is refused: the closed law BusNames returns true. No condition. -/
import Derived.Test.YtcipleanckeoaaaDoorRows
import Derived.Test.YtcipleanckeoaaaDoorCards
import Derived.Test.YtcipleanckeoaaaDoorTie
import Derived.Test.YtcipleanckeoaaaDoorCommon
import Derived.Test.YtcipleanckeoaaaDoorBusNamesW
import Derived.Test.YtcipleanckeoaaaDoorBusRow
import Derived.Test.YtcipleanckeoaaaDoorPduBase
import Derived.WalkKit
import Derived.ProofKit
import Derived.OpenShut
import Derived.ShutString
import Derived.ChangeOld
import Derived.Below
import Derived.ChangeArms
import Derived.Deep.DeepHandedRow
import Derived.Lib.LaidTab
import Derived.Stop.LaidErr
namespace Go.Proofs.YtcipleanckeoaaaDoor.busNames
open Go.ChangeShapes Go.WideShapes Go.ChangeAt Go.RowKit
open Go.ChangeMaps (open_string shut_string)
set_option linter.unusedVariables false

theorem own : ownKnob Tryd.prog.godebug = none := by kernel_rfl
theorem laidOut : laidOutB Tryd.prog = true := by kernel_rfl
theorem g_0 : Tryd.prog.globalNamed "math/bits.deBruijn32tab" = some 3 := by kernel_rfl
theorem gt_0 : (Tryd.prog.globals[3]?).map (·.type) = some 231 := by kernel_rfl
theorem tab_0 {W : World} (h : laidMet Tryd.prog Rows.busNamesRow.laid W) : Tab W 3 .u8 [0, 1, 28, 2, 29, 14, 24, 3, 30, 22, 20, 15, 25, 17, 4, 8, 31, 27, 13, 23, 21, 19, 16, 7, 26, 12, 18, 6, 11, 5, 10, 9] := by
  have h1 : Lib.TabIs Tryd.prog W "math/bits.deBruijn32tab" .u8 [0, 1, 28, 2, 29, 14, 24, 3, 30, 22, 20, 15, 25, 17, 4, 8, 31, 27, 13, 23, 21, 19, 16, 7, 26, 12, 18, 6, 11, 5, 10, 9] := Lib.tabIs_of_head g_0 gt_0 Tryd.underlying231 Tryd.underlying5 (by kernel_rfl) (by kernel_rfl) h
  exact fun i hi => h1.cell g_0 i hi
theorem lab_0 {W : World} (h : laidMet Tryd.prog Rows.busNamesRow.laid W) : Lib.TabIs Tryd.prog W "math/bits.deBruijn32tab" .u8 [0, 1, 28, 2, 29, 14, 24, 3, 30, 22, 20, 15, 25, 17, 4, 8, 31, 27, 13, 23, 21, 19, 16, 7, 26, 12, 18, 6, 11, 5, 10, 9] :=
  Lib.tabIs_of_head g_0 gt_0 Tryd.underlying231 Tryd.underlying5 (by kernel_rfl) (by kernel_rfl) h
theorem g_1 : Tryd.prog.globalNamed "math/bits.deBruijn64tab" = some 4 := by kernel_rfl
theorem gt_1 : (Tryd.prog.globals[4]?).map (·.type) = some 232 := by kernel_rfl
theorem tab_1 {W : World} (h : laidMet Tryd.prog Rows.busNamesRow.laid W) : Tab W 4 .u8 [0, 1, 56, 2, 57, 49, 28, 3, 61, 58, 42, 50, 38, 29, 17, 4, 62, 47, 59, 36, 45, 43, 51, 22, 53, 39, 33, 30, 24, 18, 12, 5, 63, 55, 48, 27, 60, 41, 37, 16, 46, 35, 44, 21, 52, 32, 23, 11, 54, 26, 40, 15, 34, 20, 31, 10, 25, 14, 19, 9, 13, 8, 7, 6] := by
  have h1 : Lib.TabIs Tryd.prog W "math/bits.deBruijn64tab" .u8 [0, 1, 56, 2, 57, 49, 28, 3, 61, 58, 42, 50, 38, 29, 17, 4, 62, 47, 59, 36, 45, 43, 51, 22, 53, 39, 33, 30, 24, 18, 12, 5, 63, 55, 48, 27, 60, 41, 37, 16, 46, 35, 44, 21, 52, 32, 23, 11, 54, 26, 40, 15, 34, 20, 31, 10, 25, 14, 19, 9, 13, 8, 7, 6] := Lib.tabIs_of_head g_1 gt_1 Tryd.underlying232 Tryd.underlying5 (by kernel_rfl) (by kernel_rfl) (laidMet.tail h)
  exact fun i hi => h1.cell g_1 i hi
theorem lab_1 {W : World} (h : laidMet Tryd.prog Rows.busNamesRow.laid W) : Lib.TabIs Tryd.prog W "math/bits.deBruijn64tab" .u8 [0, 1, 56, 2, 57, 49, 28, 3, 61, 58, 42, 50, 38, 29, 17, 4, 62, 47, 59, 36, 45, 43, 51, 22, 53, 39, 33, 30, 24, 18, 12, 5, 63, 55, 48, 27, 60, 41, 37, 16, 46, 35, 44, 21, 52, 32, 23, 11, 54, 26, 40, 15, 34, 20, 31, 10, 25, 14, 19, 9, 13, 8, 7, 6] :=
  Lib.tabIs_of_head g_1 gt_1 Tryd.underlying232 Tryd.underlying5 (by kernel_rfl) (by kernel_rfl) (laidMet.tail h)
theorem g_2 : Tryd.prog.globalNamed "internal/strconv.uint64pow10" = some 2 := by kernel_rfl
theorem gt_2 : (Tryd.prog.globals[2]?).map (·.type) = some 219 := by kernel_rfl
theorem tab_2 {W : World} (h : laidMet Tryd.prog Rows.busNamesRow.laid W) : Tab W 2 .u64 [1, 10, 100, 1000, 10000, 100000, 1000000, 10000000, 100000000, 1000000000, 10000000000, 100000000000, 1000000000000, 10000000000000, 100000000000000, 1000000000000000, 10000000000000000, 100000000000000000, 1000000000000000000, 10000000000000000000] := by
  have h1 : Lib.TabIs Tryd.prog W "internal/strconv.uint64pow10" .u64 [1, 10, 100, 1000, 10000, 100000, 1000000, 10000000, 100000000, 1000000000, 10000000000, 100000000000, 1000000000000, 10000000000000, 100000000000000, 1000000000000000, 10000000000000000, 100000000000000000, 1000000000000000000, 10000000000000000000] := Lib.tabIs_of_head g_2 gt_2 Tryd.underlying219 Tryd.underlying150 (by kernel_rfl) (by kernel_rfl) (laidMet.tail (laidMet.tail h))
  exact fun i hi => h1.cell g_2 i hi
theorem lab_2 {W : World} (h : laidMet Tryd.prog Rows.busNamesRow.laid W) : Lib.TabIs Tryd.prog W "internal/strconv.uint64pow10" .u64 [1, 10, 100, 1000, 10000, 100000, 1000000, 10000000, 100000000, 1000000000, 10000000000, 100000000000, 1000000000000, 10000000000000, 100000000000000, 1000000000000000, 10000000000000000, 100000000000000000, 1000000000000000000, 10000000000000000000] :=
  Lib.tabIs_of_head g_2 gt_2 Tryd.underlying219 Tryd.underlying150 (by kernel_rfl) (by kernel_rfl) (laidMet.tail (laidMet.tail h))
theorem g_3 : Tryd.prog.globalNamed "kilowatt/pdu.limits" = some 1 := by kernel_rfl
theorem gt_3 : (Tryd.prog.globals[1]?).map (·.type) = some 207 := by kernel_rfl
theorem g_4 : Tryd.prog.globalNamed "kilowatt/bus.names" = some 0 := by kernel_rfl
theorem gt_4 : (Tryd.prog.globals[0]?).map (·.type) = some 122 := by kernel_rfl
theorem tabw_4 {W : World} (h : laidMet Tryd.prog Rows.busNamesRow.laid W) : NamesT W := names_of_head rfl (laidMet.tail (laidMet.tail (laidMet.tail (laidMet.tail h))))
set_option maxRecDepth 100000 in
theorem range_3 {W : World} (h : laidMet Tryd.prog Rows.busNamesRow.laid W) : W.rangeAt 1 0 [.int .i64 1, .int .i64 2000, .int .i64 0, .int .i64 0, .int .i64 2, .int .i64 2000, .int .i64 0, .int .i64 0, .int .i64 3, .int .i64 125, .int .i64 0, .int .i64 0, .int .i64 4, .int .i64 125, .int .i64 0, .int .i64 0, .int .i64 5, .int .i64 0, .int .i64 1, .int .i64 0, .int .i64 6, .int .i64 0, .int .i64 0, .int .i64 1, .int .i64 15, .int .i64 0, .int .i64 1968, .int .i64 0, .int .i64 16, .int .i64 0, .int .i64 0, .int .i64 123, .int .i64 23, .int .i64 125, .int .i64 0, .int .i64 121] := by
  refine range_of_head (rows := [[1, 2000, 0, 0], [2, 2000, 0, 0], [3, 125, 0, 0], [4, 125, 0, 0], [5, 0, 1, 0], [6, 0, 0, 1], [15, 0, 1968, 0], [16, 0, 0, 123], [23, 125, 0, 121]]) (m := 4) g_3 gt_3 Tryd.underlying207 Tryd.underlying167 (by kernel_rfl) (by kernel_rfl) rfl ?_ rfl ?_ (laidMet.tail (laidMet.tail (laidMet.tail h)))
  · intro j f hj
    match j, hj with
    | 0, hj => obtain rfl := (Option.some.inj hj); exact ⟨rfl, by kernel_rfl, by kernel_rfl⟩
    | 1, hj => obtain rfl := (Option.some.inj hj); exact ⟨rfl, by kernel_rfl, by kernel_rfl⟩
    | 2, hj => obtain rfl := (Option.some.inj hj); exact ⟨rfl, by kernel_rfl, by kernel_rfl⟩
    | 3, hj => obtain rfl := (Option.some.inj hj); exact ⟨rfl, by kernel_rfl, by kernel_rfl⟩
    | _ + 4, hj => cases hj
  · intro i v hi
    match i, hi with
    | 0, hi => exact ⟨_, _, rfl, rfl, (Option.some.inj hi).symm⟩
    | 1, hi => exact ⟨_, _, rfl, rfl, (Option.some.inj hi).symm⟩
    | 2, hi => exact ⟨_, _, rfl, rfl, (Option.some.inj hi).symm⟩
    | 3, hi => exact ⟨_, _, rfl, rfl, (Option.some.inj hi).symm⟩
    | 4, hi => exact ⟨_, _, rfl, rfl, (Option.some.inj hi).symm⟩
    | 5, hi => exact ⟨_, _, rfl, rfl, (Option.some.inj hi).symm⟩
    | 6, hi => exact ⟨_, _, rfl, rfl, (Option.some.inj hi).symm⟩
    | 7, hi => exact ⟨_, _, rfl, rfl, (Option.some.inj hi).symm⟩
    | 8, hi => exact ⟨_, _, rfl, rfl, (Option.some.inj hi).symm⟩
    | 9, hi => exact ⟨_, _, rfl, rfl, (Option.some.inj hi).symm⟩
    | 10, hi => exact ⟨_, _, rfl, rfl, (Option.some.inj hi).symm⟩
    | 11, hi => exact ⟨_, _, rfl, rfl, (Option.some.inj hi).symm⟩
    | 12, hi => exact ⟨_, _, rfl, rfl, (Option.some.inj hi).symm⟩
    | 13, hi => exact ⟨_, _, rfl, rfl, (Option.some.inj hi).symm⟩
    | 14, hi => exact ⟨_, _, rfl, rfl, (Option.some.inj hi).symm⟩
    | 15, hi => exact ⟨_, _, rfl, rfl, (Option.some.inj hi).symm⟩
    | 16, hi => exact ⟨_, _, rfl, rfl, (Option.some.inj hi).symm⟩
    | 17, hi => exact ⟨_, _, rfl, rfl, (Option.some.inj hi).symm⟩
    | 18, hi => exact ⟨_, _, rfl, rfl, (Option.some.inj hi).symm⟩
    | 19, hi => exact ⟨_, _, rfl, rfl, (Option.some.inj hi).symm⟩
    | 20, hi => exact ⟨_, _, rfl, rfl, (Option.some.inj hi).symm⟩
    | 21, hi => exact ⟨_, _, rfl, rfl, (Option.some.inj hi).symm⟩
    | 22, hi => exact ⟨_, _, rfl, rfl, (Option.some.inj hi).symm⟩
    | 23, hi => exact ⟨_, _, rfl, rfl, (Option.some.inj hi).symm⟩
    | 24, hi => exact ⟨_, _, rfl, rfl, (Option.some.inj hi).symm⟩
    | 25, hi => exact ⟨_, _, rfl, rfl, (Option.some.inj hi).symm⟩
    | 26, hi => exact ⟨_, _, rfl, rfl, (Option.some.inj hi).symm⟩
    | 27, hi => exact ⟨_, _, rfl, rfl, (Option.some.inj hi).symm⟩
    | 28, hi => exact ⟨_, _, rfl, rfl, (Option.some.inj hi).symm⟩
    | 29, hi => exact ⟨_, _, rfl, rfl, (Option.some.inj hi).symm⟩
    | 30, hi => exact ⟨_, _, rfl, rfl, (Option.some.inj hi).symm⟩
    | 31, hi => exact ⟨_, _, rfl, rfl, (Option.some.inj hi).symm⟩
    | 32, hi => exact ⟨_, _, rfl, rfl, (Option.some.inj hi).symm⟩
    | 33, hi => exact ⟨_, _, rfl, rfl, (Option.some.inj hi).symm⟩
    | 34, hi => exact ⟨_, _, rfl, rfl, (Option.some.inj hi).symm⟩
    | 35, hi => exact ⟨_, _, rfl, rfl, (Option.some.inj hi).symm⟩
    | _ + 36, hi => cases hi

theorem walk  (w : World) (l0 : Lib.TabIs Tryd.prog w "math/bits.deBruijn32tab" .u8 [0, 1, 28, 2, 29, 14, 24, 3, 30, 22, 20, 15, 25, 17, 4, 8, 31, 27, 13, 23, 21, 19, 16, 7, 26, 12, 18, 6, 11, 5, 10, 9]) (l1 : Lib.TabIs Tryd.prog w "math/bits.deBruijn64tab" .u8 [0, 1, 56, 2, 57, 49, 28, 3, 61, 58, 42, 50, 38, 29, 17, 4, 62, 47, 59, 36, 45, 43, 51, 22, 53, 39, 33, 30, 24, 18, 12, 5, 63, 55, 48, 27, 60, 41, 37, 16, 46, 35, 44, 21, 52, 32, 23, 11, 54, 26, 40, 15, 34, 20, 31, 10, 25, 14, 19, 9, 13, 8, 7, 6]) (l2 : Lib.TabIs Tryd.prog w "internal/strconv.uint64pow10" .u64 [1, 10, 100, 1000, 10000, 100000, 1000000, 10000000, 100000000, 1000000000, 10000000000, 100000000000, 1000000000000, 10000000000000, 100000000000000, 1000000000000000, 10000000000000000, 100000000000000000, 1000000000000000000, 10000000000000000000]) (t0 : Tab w 3 .u8 [0, 1, 28, 2, 29, 14, 24, 3, 30, 22, 20, 15, 25, 17, 4, 8, 31, 27, 13, 23, 21, 19, 16, 7, 26, 12, 18, 6, 11, 5, 10, 9]) (t1 : Tab w 4 .u8 [0, 1, 56, 2, 57, 49, 28, 3, 61, 58, 42, 50, 38, 29, 17, 4, 62, 47, 59, 36, 45, 43, 51, 22, 53, 39, 33, 30, 24, 18, 12, 5, 63, 55, 48, 27, 60, 41, 37, 16, 46, 35, 44, 21, 52, 32, 23, 11, 54, 26, 40, 15, 34, 20, 31, 10, 25, 14, 19, 9, 13, 8, 7, 6]) (t2 : Tab w 2 .u64 [1, 10, 100, 1000, 10000, 100000, 1000000, 10000000, 100000000, 1000000000, 10000000000, 100000000000, 1000000000000, 10000000000000, 100000000000000, 1000000000000000, 10000000000000000, 100000000000000000, 1000000000000000000, 10000000000000000000]) (t3 : w.rangeAt 1 0 [.int .i64 1, .int .i64 2000, .int .i64 0, .int .i64 0, .int .i64 2, .int .i64 2000, .int .i64 0, .int .i64 0, .int .i64 3, .int .i64 125, .int .i64 0, .int .i64 0, .int .i64 4, .int .i64 125, .int .i64 0, .int .i64 0, .int .i64 5, .int .i64 0, .int .i64 1, .int .i64 0, .int .i64 6, .int .i64 0, .int .i64 0, .int .i64 1, .int .i64 15, .int .i64 0, .int .i64 1968, .int .i64 0, .int .i64 16, .int .i64 0, .int .i64 0, .int .i64 123, .int .i64 23, .int .i64 125, .int .i64 0, .int .i64 121]) (t4 : NamesT w)  :
    Calls Tryd.prog 4 #[] w fun e w' => e = .returned (.bool true) ∧ Below w.heap.size w w' := by
  exact names22_any w t3 t4

set_option maxHeartbeats 4000000 in
set_option maxRecDepth 100000 in
theorem contract (H : Type) (enc : TypeId × Value → H) (W : World) (base : Nat) (args : Array Value) (ds gs : List (DataW H)) (before : List MemPlace)
    (hval0 : ∀ (j : Nat) t v, Tryd.f4.params[j]? = some t → args[j]? = some v → Value.okWide Tryd.prog W .any base t v)
    (hW : DataW.Whole enc Tryd.prog Tryd.f4.params.toList Rows.busNamesSpec.vars false W args.toList ds gs before) (hL : laidMet Tryd.prog Rows.busNamesRow.laid W) :
    Calls Tryd.prog 4 args W fun e W' => ∃ v, e = .returned v ∧ Rows.busNamesSpec.post enc Tryd.prog Tryd.f4 false true false false W args v W' := by
  have hval : ∀ (j : Nat) t v, Tryd.f4.params[j]? = some t → args[j]? = some v → Value.okWide Tryd.prog W .any base t v := hval0
  have hW' := hW
  obtain ⟨p, q, hA0, hV, rfl, hfz, hnd⟩ := hW
  have hA : DataW.TrodAll enc Tryd.prog W 0 (fun _ => true) true Tryd.f4.params.toList args.toList ds p := hA0
  rw [Tryd.params4] at hA hval
  obtain ⟨hargs, rfl, rfl⟩ := trodAll_nil hA
  obtain rfl : args = #[] := by cases args; simp_all
  obtain ⟨rfl, rfl⟩ := trodVars_none hV
  clear hA0 hval0
  refine (walk  W (lab_0 hL) (lab_1 hL) (lab_2 hL) (tab_0 hL) (tab_1 hL) (tab_2 hL) (range_3 hL) (tabw_4 hL) ).mono fun e W' ⟨he, bel⟩ => ?_
  subst he
  exact ⟨_, rfl, _, _, _, [], _, [], hW', trodAll_mk1 (shut_bool Tryd.underlying4 _), trodAll_mk0, rfl, bel.frame _, fun h => by cases h⟩

/-- A world for the witness: the settled one, the listed tables as their initialisers lay them. -/
noncomputable def laidWorld (os : Os) : World :=
  { World.holding Tryd.prog os ⟨#[], #[], []⟩ with heap := ((((((World.holding Tryd.prog os ⟨#[], #[], []⟩).heap.modify 3 fun | .cells _ t frozen => .cells #[.int .u8 0, .int .u8 1, .int .u8 28, .int .u8 2, .int .u8 29, .int .u8 14, .int .u8 24, .int .u8 3, .int .u8 30, .int .u8 22, .int .u8 20, .int .u8 15, .int .u8 25, .int .u8 17, .int .u8 4, .int .u8 8, .int .u8 31, .int .u8 27, .int .u8 13, .int .u8 23, .int .u8 21, .int .u8 19, .int .u8 16, .int .u8 7, .int .u8 26, .int .u8 12, .int .u8 18, .int .u8 6, .int .u8 11, .int .u8 5, .int .u8 10, .int .u8 9] t frozen | o => o).modify 4 fun | .cells _ t frozen => .cells #[.int .u8 0, .int .u8 1, .int .u8 56, .int .u8 2, .int .u8 57, .int .u8 49, .int .u8 28, .int .u8 3, .int .u8 61, .int .u8 58, .int .u8 42, .int .u8 50, .int .u8 38, .int .u8 29, .int .u8 17, .int .u8 4, .int .u8 62, .int .u8 47, .int .u8 59, .int .u8 36, .int .u8 45, .int .u8 43, .int .u8 51, .int .u8 22, .int .u8 53, .int .u8 39, .int .u8 33, .int .u8 30, .int .u8 24, .int .u8 18, .int .u8 12, .int .u8 5, .int .u8 63, .int .u8 55, .int .u8 48, .int .u8 27, .int .u8 60, .int .u8 41, .int .u8 37, .int .u8 16, .int .u8 46, .int .u8 35, .int .u8 44, .int .u8 21, .int .u8 52, .int .u8 32, .int .u8 23, .int .u8 11, .int .u8 54, .int .u8 26, .int .u8 40, .int .u8 15, .int .u8 34, .int .u8 20, .int .u8 31, .int .u8 10, .int .u8 25, .int .u8 14, .int .u8 19, .int .u8 9, .int .u8 13, .int .u8 8, .int .u8 7, .int .u8 6] t frozen | o => o).modify 2 fun | .cells _ t frozen => .cells #[.int .u64 1, .int .u64 10, .int .u64 100, .int .u64 1000, .int .u64 10000, .int .u64 100000, .int .u64 1000000, .int .u64 10000000, .int .u64 100000000, .int .u64 1000000000, .int .u64 10000000000, .int .u64 100000000000, .int .u64 1000000000000, .int .u64 10000000000000, .int .u64 100000000000000, .int .u64 1000000000000000, .int .u64 10000000000000000, .int .u64 100000000000000000, .int .u64 1000000000000000000, .int .u64 10000000000000000000] t frozen | o => o).modify 1 fun | .cells _ t frozen => .cells #[.int .i64 1, .int .i64 2000, .int .i64 0, .int .i64 0, .int .i64 2, .int .i64 2000, .int .i64 0, .int .i64 0, .int .i64 3, .int .i64 125, .int .i64 0, .int .i64 0, .int .i64 4, .int .i64 125, .int .i64 0, .int .i64 0, .int .i64 5, .int .i64 0, .int .i64 1, .int .i64 0, .int .i64 6, .int .i64 0, .int .i64 0, .int .i64 1, .int .i64 15, .int .i64 0, .int .i64 1968, .int .i64 0, .int .i64 16, .int .i64 0, .int .i64 0, .int .i64 123, .int .i64 23, .int .i64 125, .int .i64 0, .int .i64 121] t frozen | o => o).modify 0 fun | .cells _ t frozen => .cells #[.string ⟨([] : List UInt8).toArray⟩, .string ⟨([114, 105, 103, 104, 116] : List UInt8).toArray⟩, .string ⟨([114, 101, 102, 117, 115, 101] : List UInt8).toArray⟩, .string ⟨([115, 105, 108, 101, 110, 116] : List UInt8).toArray⟩, .string ⟨([99, 117, 116] : List UInt8).toArray⟩, .string ⟨([115, 112, 111, 105, 108] : List UInt8).toArray⟩, .string ⟨([111, 116, 104, 101, 114] : List UInt8).toArray⟩, .string ⟨([110, 111, 105, 115, 101] : List UInt8).toArray⟩] t frozen | o => o) }
set_option maxRecDepth 100000 in
theorem laid_met (os : Os) : laidMet Tryd.prog Rows.busNamesRow.laid ((laidWorld os).forCall (fun _ _ => 0) ⟨#[], #[], []⟩).memory :=
  laidMet_of_run' 8 (by kernel_rfl) (by kernel_rfl)
set_option maxRecDepth 100000 in
theorem reads (os : Os) {H : Type} (enc : TypeId × Value → H) : ∃ places, DataW.whole enc Tryd.prog ((laidWorld os).forCall (fun _ _ => 0) ⟨#[], #[], []⟩).memory Tryd.f4.params.toList Rows.busNamesSpec.vars false (#[] : Array Value).toList 8 = some ([], [], places) :=
  ⟨[], by kernel_rfl⟩
set_option maxRecDepth 100000 in
theorem lifted (os : Os) (started : os.Started) (H : Type) (enc : TypeId × Value → H) (F : Stop.Interp) :
    ReturnsInHanded {} Tryd.checked os 4 .any ((OpenSpec.ofChange Rows.busNamesSpec).preRow enc Tryd.prog Tryd.f4 Rows.busNamesRow.domain false Rows.busNamesRow.laid) (((OpenSpec.ofChange Rows.busNamesSpec).at F).post enc Tryd.prog Tryd.f4 false true false false) := by
  obtain ⟨places, hx⟩ := reads os enc
  refine returnsInHanded_of_row (C := Tryd.checked) (s := OpenSpec.ofChange Rows.busNamesSpec) own started (by kernel_rfl) Tryd.func4
    (witness_row_at (enc := enc) (C := Tryd.checked) false (laidWorld os) #[] rfl (by kernel_rfl) (by kernel_rfl) (by kernel_rfl)
      (OpenSpec.preRow_of_cond 8 hx (by kernel_rfl) (fun k hk => by cases hk) (by kernel_rfl) (laid_met os))) ?_
  intro W base args ds gs before hval hW _ hcond _ hL _ _
  exact contract H enc W base args ds gs before hval hW hL
theorem said : Rows.BusNamesSaid :=
  OpenClaim.holds_of_cond 4 Tryd.f4 rfl rfl rfl rfl rfl rfl rfl ⟨rfl, rfl, rfl, rfl, rfl⟩ rfl rfl rfl rfl rfl (by kernel_rfl) Tryd.func4 (by kernel_rfl)
    (of_decide_eq_true (by kernel_rfl)) (by unfold Func.isWrapper; first | (rw [if_pos (by decide +kernel)]; kernel_rfl) | (rw [if_neg (by decide +kernel)]; exact ⟨rfl, rfl⟩))
    (fun os started H enc _ F => by rw [OpenClaim.pre_eq_preRow]; exact lifted os started H enc F)
theorem plain (f : FuncId) (fn : Func) (hf : Tryd.pinned.checked.prog.funcNamed "kilowatt/kilowattlaw22.BusNames" = some f) (hfn : Tryd.pinned.checked.prog.funcs[f]? = some fn) :
    false = Tryd.pinned.checked.prog.looks [] ∧ ∀ (j : Nat) t, fn.params[j]? = some t → Tryd.pinned.checked.prog.wantsStandIn t = false := by
  obtain rfl : f = 4 := Option.some.inj ((show Tryd.prog.funcNamed "kilowatt/kilowattlaw22.BusNames" = some 4 by kernel_rfl).symm.trans hf) |>.symm
  obtain rfl : fn = Tryd.f4 := (Option.some.inj (Tryd.func4.symm.trans hfn)).symm
  refine ⟨by kernel_rfl, fun j t ht => ?_⟩
  rw [Tryd.params4] at ht
  simp at ht
/-- The statement: the card. -/
theorem proved : Rows.BusNamesCardSaid :=
  Claim7.holds_tied_plain_at .later [] _ _ _ _ said (fun _ h => by cases h) (by kernel_rfl) (fun _ h => by cases h) busNames_row_tie rfl ⟨rfl, rfl⟩ (by kernel_rfl) rfl plain (by kernel_rfl)
#print axioms proved
end Go.Proofs.YtcipleanckeoaaaDoor.busNames
