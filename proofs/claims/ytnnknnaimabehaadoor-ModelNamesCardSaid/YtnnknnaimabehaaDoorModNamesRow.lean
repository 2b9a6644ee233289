/- The chapter's numbers and examples: the closed law ModelNames returns true. No condition. -/
import Derived.Test.YtnnknnaimabehaaDoorRows
import Derived.Test.YtnnknnaimabehaaDoorCards
import Derived.Test.YtnnknnaimabehaaDoorTie
import Derived.Test.YtnnknnaimabehaaDoorMem
import Derived.Test.YtnnknnaimabehaaDoorTab
import Derived.Test.YtnnknnaimabehaaDoorTabs
import Derived.Test.YtnnknnaimabehaaDoorModNames
import Derived.WalkKit
import Derived.ProofKit
import Derived.OpenShut
import Derived.ShutString
import Derived.ChangeOld
import Derived.Below
import Derived.ChangeArms
import Derived.Deep.DeepHandedRow
import Derived.Lib.LaidTab
import Derived.Stop.LaidErr
namespace Go.Proofs.YtnnknnaimabehaaDoor.modelNames
open Go.ChangeShapes Go.WideShapes Go.ChangeAt Go.RowKit
open Go.ChangeMaps (open_string shut_string)
set_option linter.unusedVariables false

theorem own : ownKnob Tryd.prog.godebug = none := by kernel_rfl
theorem laidOut : laidOutB Tryd.prog = true := by kernel_rfl
theorem g_0 : Tryd.prog.globalNamed "kilowatt/model.points" = some 0 := by kernel_rfl
theorem gt_0 : (Tryd.prog.globals[0]?).map (·.type) = some 89 := by kernel_rfl
set_option maxRecDepth 100000 in
theorem range_0 {W : World} (h : laidMet Tryd.prog Rows.modelNamesRow.laid W) : W.rangeAt 0 0 [.int .i64 1, .int .i64 1, .int .i64 2, .int .i64 4, .int .i64 2, .int .i64 4, .int .i64 1, .int .i64 2, .int .i64 1, .int .i64 2, .int .i64 1, .int .i64 2, .int .i64 1, .int .i64 2, .int .i64 1, .int .i64 2, .int .i64 1, .int .i64 4, .int .i64 2, .int .i64 4, .int .i64 2, .int .i64 4, .int .i64 2, .int .i64 4, .int .i64 2, .int .i64 4, .int .i64 2, .int .i64 4, .int .i64 2, .int .i64 4, .int .i64 2, .int .i64 4, .int .i64 2, .int .i64 4] := by
  refine range_of_head (rows := [[1, 1], [2, 4], [2, 4], [1, 2], [1, 2], [1, 2], [1, 2], [1, 2], [1, 4], [2, 4], [2, 4], [2, 4], [2, 4], [2, 4], [2, 4], [2, 4], [2, 4]]) (m := 2) g_0 gt_0 Tryd.underlying89 Tryd.underlying42 (by kernel_rfl) (by kernel_rfl) rfl ?_ rfl ?_ h
  · intro j f hj
    match j, hj with
    | 0, hj => obtain rfl := (Option.some.inj hj); exact ⟨rfl, by kernel_rfl, by kernel_rfl⟩
    | 1, hj => obtain rfl := (Option.some.inj hj); exact ⟨rfl, by kernel_rfl, by kernel_rfl⟩
    | _ + 2, hj => cases hj
  · intro i v hi
    match i, hi with
    | 0, hi => exact ⟨_, _, rfl, rfl, (Option.some.inj hi).symm⟩
    | 1, hi => exact ⟨_, _, rfl, rfl, (Option.some.inj hi).symm⟩
    | 2, hi => exact ⟨_, _, rfl, rfl, (Option.some.inj hi).symm⟩
    | 3, hi => exact ⟨_, _, rfl, rfl, (Option.some.inj hi).symm⟩
    | 4, hi => exact ⟨_, _, rfl, rfl, (Option.some.inj hi).symm⟩
    | 5, hi => exact ⟨_, _, rfl, rfl, (Option.some.inj hi).symm⟩
    | 6, hi => exact ⟨_, _, rfl, rfl, (Option.some.inj hi).symm⟩
    | 7, hi => exact ⟨_, _, rfl, rfl, (Option.some.inj hi).symm⟩
    | 8, hi => exact ⟨_, _, rfl, rfl, (Option.some.inj hi).symm⟩
    | 9, hi => exact ⟨_, _, rfl, rfl, (Option.some.inj hi).symm⟩
    | 10, hi => exact ⟨_, _, rfl, rfl, (Option.some.inj hi).symm⟩
    | 11, hi => exact ⟨_, _, rfl, rfl, (Option.some.inj hi).symm⟩
    | 12, hi => exact ⟨_, _, rfl, rfl, (Option.some.inj hi).symm⟩
    | 13, hi => exact ⟨_, _, rfl, rfl, (Option.some.inj hi).symm⟩
    | 14, hi => exact ⟨_, _, rfl, rfl, (Option.some.inj hi).symm⟩
    | 15, hi => exact ⟨_, _, rfl, rfl, (Option.some.inj hi).symm⟩
    | 16, hi => exact ⟨_, _, rfl, rfl, (Option.some.inj hi).symm⟩
    | 17, hi => exact ⟨_, _, rfl, rfl, (Option.some.inj hi).symm⟩
    | 18, hi => exact ⟨_, _, rfl, rfl, (Option.some.inj hi).symm⟩
    | 19, hi => exact ⟨_, _, rfl, rfl, (Option.some.inj hi).symm⟩
    | 20, hi => exact ⟨_, _, rfl, rfl, (Option.some.inj hi).symm⟩
    | 21, hi => exact ⟨_, _, rfl, rfl, (Option.some.inj hi).symm⟩
    | 22, hi => exact ⟨_, _, rfl, rfl, (Option.some.inj hi).symm⟩
    | 23, hi => exact ⟨_, _, rfl, rfl, (Option.some.inj hi).symm⟩
    | 24, hi => exact ⟨_, _, rfl, rfl, (Option.some.inj hi).symm⟩
    | 25, hi => exact ⟨_, _, rfl, rfl, (Option.some.inj hi).symm⟩
    | 26, hi => exact ⟨_, _, rfl, rfl, (Option.some.inj hi).symm⟩
    | 27, hi => exact ⟨_, _, rfl, rfl, (Option.some.inj hi).symm⟩
    | 28, hi => exact ⟨_, _, rfl, rfl, (Option.some.inj hi).symm⟩
    | 29, hi => exact ⟨_, _, rfl, rfl, (Option.some.inj hi).symm⟩
    | 30, hi => exact ⟨_, _, rfl, rfl, (Option.some.inj hi).symm⟩
    | 31, hi => exact ⟨_, _, rfl, rfl, (Option.some.inj hi).symm⟩
    | 32, hi => exact ⟨_, _, rfl, rfl, (Option.some.inj hi).symm⟩
    | 33, hi => exact ⟨_, _, rfl, rfl, (Option.some.inj hi).symm⟩
    | _ + 34, hi => cases hi

theorem walk  (w : World)   (t0 : w.rangeAt 0 0 [.int .i64 1, .int .i64 1, .int .i64 2, .int .i64 4, .int .i64 2, .int .i64 4, .int .i64 1, .int .i64 2, .int .i64 1, .int .i64 2, .int .i64 1, .int .i64 2, .int .i64 1, .int .i64 2, .int .i64 1, .int .i64 2, .int .i64 1, .int .i64 4, .int .i64 2, .int .i64 4, .int .i64 2, .int .i64 4, .int .i64 2, .int .i64 4, .int .i64 2, .int .i64 4, .int .i64 2, .int .i64 4, .int .i64 2, .int .i64 4, .int .i64 2, .int .i64 4, .int .i64 2, .int .i64 4])   :
    Calls Tryd.prog 3 #[] w fun e w' => e = .returned (.bool true) ∧ Below w.heap.size w w' := by
  exact names_any w t0

set_option maxHeartbeats 4000000 in
set_option maxRecDepth 100000 in
theorem contract (H : Type) (enc : TypeId × Value → H) (W : World) (base : Nat) (args : Array Value) (ds gs : List (DataW H)) (before : List MemPlace)
    (hval0 : ∀ (j : Nat) t v, Tryd.f3.params[j]? = some t → args[j]? = some v → Value.okWide Tryd.prog W .any base t v)
    (hW : DataW.Whole enc Tryd.prog Tryd.f3.params.toList Rows.modelNamesSpec.vars false W args.toList ds gs before) (hL : laidMet Tryd.prog Rows.modelNamesRow.laid W) :
    Calls Tryd.prog 3 args W fun e W' => ∃ v, e = .returned v ∧ Rows.modelNamesSpec.post enc Tryd.prog Tryd.f3 false true false false W args v W' := by
  have hval : ∀ (j : Nat) t v, Tryd.f3.params[j]? = some t → args[j]? = some v → Value.okWide Tryd.prog W .any base t v := hval0
  have hW' := hW
  obtain ⟨p, q, hA0, hV, rfl, hfz, hnd⟩ := hW
  have hA : DataW.TrodAll enc Tryd.prog W 0 (fun _ => true) true Tryd.f3.params.toList args.toList ds p := hA0
  rw [Tryd.params3] at hA hval
  obtain ⟨hargs, rfl, rfl⟩ := trodAll_nil hA
  obtain rfl : args = #[] := by cases args; simp_all
  obtain ⟨rfl, rfl⟩ := trodVars_none hV
  clear hA0 hval0
  refine (walk  W (range_0 hL) ).mono fun e W' ⟨he, bel⟩ => ?_
  subst he
  exact ⟨_, rfl, _, _, _, [], _, [], hW', trodAll_mk1 (shut_bool Tryd.underlying4 _), trodAll_mk0, rfl, bel.frame _, fun h => by cases h⟩

/-- A world for the witness: the settled one, the listed tables as their initialisers lay them. -/
noncomputable def laidWorld (os : Os) : World :=
  { World.holding Tryd.prog os ⟨#[], #[], []⟩ with heap := ((World.holding Tryd.prog os ⟨#[], #[], []⟩).heap.modify 0 fun | .cells _ t frozen => .cells #[.int .i64 1, .int .i64 1, .int .i64 2, .int .i64 4, .int .i64 2, .int .i64 4, .int .i64 1, .int .i64 2, .int .i64 1, .int .i64 2, .int .i64 1, .int .i64 2, .int .i64 1, .int .i64 2, .int .i64 1, .int .i64 2, .int .i64 1, .int .i64 4, .int .i64 2, .int .i64 4, .int .i64 2, .int .i64 4, .int .i64 2, .int .i64 4, .int .i64 2, .int .i64 4, .int .i64 2, .int .i64 4, .int .i64 2, .int .i64 4, .int .i64 2, .int .i64 4, .int .i64 2, .int .i64 4] t frozen | o => o) }
set_option maxRecDepth 100000 in
theorem laid_met (os : Os) : laidMet Tryd.prog Rows.modelNamesRow.laid ((laidWorld os).forCall (fun _ _ => 0) ⟨#[], #[], []⟩).memory :=
  laidMet_of_run' 8 (by kernel_rfl) (by kernel_rfl)
set_option maxRecDepth 100000 in
theorem reads (os : Os) {H : Type} (enc : TypeId × Value → H) : ∃ places, DataW.whole enc Tryd.prog ((laidWorld os).forCall (fun _ _ => 0) ⟨#[], #[], []⟩).memory Tryd.f3.params.toList Rows.modelNamesSpec.vars false (#[] : Array Value).toList 8 = some ([], [], places) :=
  ⟨[], by kernel_rfl⟩
set_option maxRecDepth 100000 in
theorem lifted (os : Os) (started : os.Started) (H : Type) (enc : TypeId × Value → H) (F : Stop.Interp) :
    ReturnsInHanded {} Tryd.checked os 3 .any ((OpenSpec.ofChange Rows.modelNamesSpec).preRow enc Tryd.prog Tryd.f3 Rows.modelNamesRow.domain false Rows.modelNamesRow.laid) (((OpenSpec.ofChange Rows.modelNamesSpec).at F).post enc Tryd.prog Tryd.f3 false true false false) := by
  obtain ⟨places, hx⟩ := reads os enc
  refine returnsInHanded_of_row (C := Tryd.checked) (s := OpenSpec.ofChange Rows.modelNamesSpec) own started (by kernel_rfl) Tryd.func3
    (witness_row_at (enc := enc) (C := Tryd.checked) false (laidWorld os) #[] rfl (by kernel_rfl) (by kernel_rfl) (by kernel_rfl)
      (OpenSpec.preRow_of_cond 8 hx (by kernel_rfl) (fun k hk => by cases hk) (by kernel_rfl) (laid_met os))) ?_
  intro W base args ds gs before hval hW _ hcond _ hL _ _
  exact contract H enc W base args ds gs before hval hW hL
theorem said : Rows.ModelNamesSaid :=
  OpenClaim.holds_of_cond 3 Tryd.f3 rfl rfl rfl rfl rfl rfl rfl ⟨rfl, rfl, rfl, rfl, rfl⟩ rfl rfl rfl rfl rfl (by kernel_rfl) Tryd.func3 (by kernel_rfl)
    (of_decide_eq_true (by kernel_rfl)) (by unfold Func.isWrapper; first | (rw [if_pos (by decide +kernel)]; kernel_rfl) | (rw [if_neg (by decide +kernel)]; exact ⟨rfl, rfl⟩))
    (fun os started H enc _ F => by rw [OpenClaim.pre_eq_preRow]; exact lifted os started H enc F)
theorem plain (f : FuncId) (fn : Func) (hf : Tryd.pinned.checked.prog.funcNamed "kilowatt/kilowattlaw26.ModelNames" = some f) (hfn : Tryd.pinned.checked.prog.funcs[f]? = some fn) :
    false = Tryd.pinned.checked.prog.looks [] ∧ ∀ (j : Nat) t, fn.params[j]? = some t → Tryd.pinned.checked.prog.wantsStandIn t = false := by
  obtain rfl : f = 3 := Option.some.inj ((show Tryd.prog.funcNamed "kilowatt/kilowattlaw26.ModelNames" = some 3 by kernel_rfl).symm.trans hf) |>.symm
  obtain rfl : fn = Tryd.f3 := (Option.some.inj (Tryd.func3.symm.trans hfn)).symm
  refine ⟨by kernel_rfl, fun j t ht => ?_⟩
  rw [Tryd.params3] at ht
  simp at ht
/-- The statement: the card. -/
theorem proved : Rows.ModelNamesCardSaid :=
  Claim7.holds_tied_plain_at .later [] _ _ _ _ said (fun _ h => by cases h) (by kernel_rfl) (fun _ h => by cases h) modelNames_row_tie rfl ⟨rfl, rfl⟩ (by kernel_rfl) rfl plain (by kernel_rfl)
#print axioms proved
end Go.Proofs.YtnnknnaimabehaaDoor.modelNames
