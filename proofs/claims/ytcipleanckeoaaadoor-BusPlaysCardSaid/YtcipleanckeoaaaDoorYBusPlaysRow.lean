/- The law BusPlays: what comes of acts, and of a script, is the document's, for every tick, request and lists of acts. -/
import Derived.Test.YtcipleanckeoaaaDoorRows
import Derived.Test.YtcipleanckeoaaaDoorCards
import Derived.Test.YtcipleanckeoaaaDoorTie
import Derived.Test.YtcipleanckeoaaaDoorYCommon
import Derived.Test.YtcipleanckeoaaaDoorYBusRowL
import Derived.Test.YtcipleanckeoaaaDoorYBusPlaysW
import Derived.WalkKit
import Derived.ProofKit
import Derived.OpenShut
import Derived.ShutString
import Derived.ChangeOld
import Derived.Below
import Derived.ChangeArms
import Derived.Deep.DeepHandedRow
import Derived.Lib.LaidTab
import Derived.Stop.LaidErr
set_option maxRecDepth 100000
set_option maxHeartbeats 40000000
namespace Go.Proofs.YtcipleanckeoaaaDoor.busPlays
open Go.ChangeShapes Go.WideShapes Go.ChangeAt Go.RowKit
open Go.ChangeMaps (open_string shut_string)
set_option linter.unusedVariables false
theorem own : ownKnob Tryd.prog.godebug = none := by kernel_rfl
theorem laidOut : laidOutB Tryd.prog = true := by kernel_rfl
theorem g_0 : Tryd.prog.globalNamed "kilowatt/pdu.limits" = some 1 := by kernel_rfl
theorem gt_0 : (Tryd.prog.globals[1]?).map (·.type) = some 207 := by kernel_rfl
theorem g_1 : Tryd.prog.globalNamed "kilowatt/bus.names" = some 0 := by kernel_rfl
theorem gt_1 : (Tryd.prog.globals[0]?).map (·.type) = some 122 := by kernel_rfl
theorem tabw_1 {W : World} (h : laidMet Tryd.prog Rows.busPlaysRow.laid W) : NamesT W := names_of_head rfl (laidMet.tail h)
theorem range_0 {W : World} (h : laidMet Tryd.prog Rows.busPlaysRow.laid W) : W.rangeAt 1 0 [.int .i64 1, .int .i64 2000, .int .i64 0, .int .i64 0, .int .i64 2, .int .i64 2000, .int .i64 0, .int .i64 0, .int .i64 3, .int .i64 125, .int .i64 0, .int .i64 0, .int .i64 4, .int .i64 125, .int .i64 0, .int .i64 0, .int .i64 5, .int .i64 0, .int .i64 1, .int .i64 0, .int .i64 6, .int .i64 0, .int .i64 0, .int .i64 1, .int .i64 15, .int .i64 0, .int .i64 1968, .int .i64 0, .int .i64 16, .int .i64 0, .int .i64 0, .int .i64 123, .int .i64 23, .int .i64 125, .int .i64 0, .int .i64 121] := by
 refine range_of_head (rows := [[1, 2000, 0, 0], [2, 2000, 0, 0], [3, 125, 0, 0], [4, 125, 0, 0], [5, 0, 1, 0], [6, 0, 0, 1], [15, 0, 1968, 0], [16, 0, 0, 123], [23, 125, 0, 121]]) (m := 4) g_0 gt_0 Tryd.underlying207 Tryd.underlying167 (by kernel_rfl) (by kernel_rfl) rfl ?_ rfl ?_ h
 ·intro j f hj
  match j, hj with
  | 0, hj => obtain rfl := (Option.some.inj hj); exact ⟨rfl, by kernel_rfl, by kernel_rfl⟩
  | 1, hj => obtain rfl := (Option.some.inj hj); exact ⟨rfl, by kernel_rfl, by kernel_rfl⟩
  | 2, hj => obtain rfl := (Option.some.inj hj); exact ⟨rfl, by kernel_rfl, by kernel_rfl⟩
  | 3, hj => obtain rfl := (Option.some.inj hj); exact ⟨rfl, by kernel_rfl, by kernel_rfl⟩
  | _ + 4, hj => cases hj
 ·intro i v hi
  match i, hi with
  | 0, hi => exact ⟨_, _, rfl, rfl, (Option.some.inj hi).symm⟩
  | 1, hi => exact ⟨_, _, rfl, rfl, (Option.some.inj hi).symm⟩
  | 2, hi => exact ⟨_, _, rfl, rfl, (Option.some.inj hi).symm⟩
  | 3, hi => exact ⟨_, _, rfl, rfl, (Option.some.inj hi).symm⟩
  | 4, hi => exact ⟨_, _, rfl, rfl, (Option.some.inj hi).symm⟩
  | 5, hi => exact ⟨_, _, rfl, rfl, (Option.some.inj hi).symm⟩
  | 6, hi => exact ⟨_, _, rfl, rfl, (Option.some.inj hi).symm⟩
  | 7, hi => exact ⟨_, _, rfl, rfl, (Option.some.inj hi).symm⟩
  | 8, hi => exact ⟨_, _, rfl, rfl, (Option.some.inj hi).symm⟩
  | 9, hi => exact ⟨_, _, rfl, rfl, (Option.some.inj hi).symm⟩
  | 10, hi => exact ⟨_, _, rfl, rfl, (Option.some.inj hi).symm⟩
  | 11, hi => exact ⟨_, _, rfl, rfl, (Option.some.inj hi).symm⟩
  | 12, hi => exact ⟨_, _, rfl, rfl, (Option.some.inj hi).symm⟩
  | 13, hi => exact ⟨_, _, rfl, rfl, (Option.some.inj hi).symm⟩
  | 14, hi => exact ⟨_, _, rfl, rfl, (Option.some.inj hi).symm⟩
  | 15, hi => exact ⟨_, _, rfl, rfl, (Option.some.inj hi).symm⟩
  | 16, hi => exact ⟨_, _, rfl, rfl, (Option.some.inj hi).symm⟩
  | 17, hi => exact ⟨_, _, rfl, rfl, (Option.some.inj hi).symm⟩
  | 18, hi => exact ⟨_, _, rfl, rfl, (Option.some.inj hi).symm⟩
  | 19, hi => exact ⟨_, _, rfl, rfl, (Option.some.inj hi).symm⟩
  | 20, hi => exact ⟨_, _, rfl, rfl, (Option.some.inj hi).symm⟩
  | 21, hi => exact ⟨_, _, rfl, rfl, (Option.some.inj hi).symm⟩
  | 22, hi => exact ⟨_, _, rfl, rfl, (Option.some.inj hi).symm⟩
  | 23, hi => exact ⟨_, _, rfl, rfl, (Option.some.inj hi).symm⟩
  | 24, hi => exact ⟨_, _, rfl, rfl, (Option.some.inj hi).symm⟩
  | 25, hi => exact ⟨_, _, rfl, rfl, (Option.some.inj hi).symm⟩
  | 26, hi => exact ⟨_, _, rfl, rfl, (Option.some.inj hi).symm⟩
  | 27, hi => exact ⟨_, _, rfl, rfl, (Option.some.inj hi).symm⟩
  | 28, hi => exact ⟨_, _, rfl, rfl, (Option.some.inj hi).symm⟩
  | 29, hi => exact ⟨_, _, rfl, rfl, (Option.some.inj hi).symm⟩
  | 30, hi => exact ⟨_, _, rfl, rfl, (Option.some.inj hi).symm⟩
  | 31, hi => exact ⟨_, _, rfl, rfl, (Option.some.inj hi).symm⟩
  | 32, hi => exact ⟨_, _, rfl, rfl, (Option.some.inj hi).symm⟩
  | 33, hi => exact ⟨_, _, rfl, rfl, (Option.some.inj hi).symm⟩
  | 34, hi => exact ⟨_, _, rfl, rfl, (Option.some.inj hi).symm⟩
  | 35, hi => exact ⟨_, _, rfl, rfl, (Option.some.inj hi).symm⟩
  | _ + 36, hi => cases hi
theorem walk (a0 : Int) (a1 : Option Addr) (n1 c1 : Nat) (x1 : List Int) (a2 : Option Addr) (n2 c2 : Nat) (x2 : List (List ActP)) (w : World)   (t0 : w.rangeAt 1 0 [.int .i64 1, .int .i64 2000, .int .i64 0, .int .i64 0, .int .i64 2, .int .i64 2000, .int .i64 0, .int .i64 0, .int .i64 3, .int .i64 125, .int .i64 0, .int .i64 0, .int .i64 4, .int .i64 125, .int .i64 0, .int .i64 0, .int .i64 5, .int .i64 0, .int .i64 1, .int .i64 0, .int .i64 6, .int .i64 0, .int .i64 0, .int .i64 1, .int .i64 15, .int .i64 0, .int .i64 1968, .int .i64 0, .int .i64 16, .int .i64 0, .int .i64 0, .int .i64 123, .int .i64 23, .int .i64 125, .int .i64 0, .int .i64 121]) (t1 : NamesT w) (w0 : (Lit.int .i64 a0).wf = true) (s1 : SlI w w.heap.size .u8 a1 n1 c1 x1) (b1 : ∀ x ∈ x1, (Lit.int .u8 x).wf = true) (s2 : LsI w a2 n2 c2 x2) (b2 : ∀ l ∈ x2, ActsOk l) :
  Calls Tryd.prog 3 #[.int .i64 a0, .slice a1 n1 c1, .slice a2 n2 c2] w fun e w' => e = .returned (.bool true) ∧ Below w.heap.size w w' := by
 exact plays_any a0 a1 n1 c1 x1 a2 n2 c2 x2 w t0 t1 s1 (fun x hx => by have := bounds_u8 (b1 x hx); omega) s2 b2
theorem contract (H : Type) (enc : TypeId × Value → H) (W : World) (base : Nat) (args : Array Value) (ds gs : List (DataW H)) (before : List MemPlace)
  (hval0 : ∀ (j : Nat) t v, Tryd.f3.params[j]? = some t → args[j]? = some v → Value.okWide Tryd.prog W .any base t v)
  (hW : DataW.Whole enc Tryd.prog Tryd.f3.params.toList Rows.busPlaysSpec.vars false W args.toList ds gs before) (hL : laidMet Tryd.prog Rows.busPlaysRow.laid W) :
  Calls Tryd.prog 3 args W fun e W' => ∃ v, e = .returned v ∧ Rows.busPlaysSpec.post enc Tryd.prog Tryd.f3 false true false false W args v W' := by
 have hval : ∀ (j : Nat) t v, Tryd.f3.params[j]? = some t → args[j]? = some v → Value.okWide Tryd.prog W .any base t v := hval0
 have hW' := hW
 obtain ⟨p, q, hA0, hV, rfl, hfz, hnd⟩ := hW
 have hA : DataW.TrodAll enc Tryd.prog W 0 (fun _ => true) true Tryd.f3.params.toList args.toList ds p := hA0
 rw [Tryd.params3] at hA hval
 obtain ⟨v0, vs0, d0, ds0, p0, q0, hargs, rfl, rfl, h0, r0⟩ := trodAll_cons hA
 obtain ⟨v1, vs1, d1, ds1, p1, q1, rfl, rfl, rfl, h1, r1⟩ := trodAll_cons r0
 obtain ⟨v2, vs2, d2, ds2, p2, q2, rfl, rfl, rfl, h2, r2⟩ := trodAll_cons r1
 obtain ⟨rfl, rfl, rfl⟩ := trodAll_nil r2
 obtain rfl : args = #[v0, v1, v2] := by cases args; simp_all
 obtain ⟨rfl, rfl⟩ := trodVars_none hV
 obtain ⟨a0, rfl, rfl, rfl, w0⟩ := open_int Tryd.underlying2 (hval 0 2 v0 rfl rfl) h0
 obtain ⟨a1, n1, c1, rfl⟩ := okWide_slice Tryd.underlying22 (hval 1 22 v1 rfl rfl)
 have k1 := h1
 have lt1 : ∀ x ∈ p1, x.block < W.heap.size := by obtain ⟨m, hm⟩ := k1; exact DataW.trod_lt m _ _ _ hm
 obtain ⟨f1', hf1'⟩ := h1
 obtain ⟨x1, s1, b1⟩ : ∃ xs, SlI W W.heap.size .u8 a1 n1 c1 xs ∧ ∀ x ∈ xs, (Lit.int .u8 x).wf = true := by
  rcases open_ints Tryd.underlying22 Tryd.underlying5 (by kernel_rfl) hf1' with ⟨hcs, _⟩ | ⟨x, l, c, zs, hcs, _, hl, hm, hz, _, hcell, hwz⟩
  ·simp [Value.cells] at hcs
   obtain ⟨rfl, rfl, rfl⟩ := hcs
   exact ⟨[], SlI.nil _ _ _, by simp⟩
  ·simp [Value.cells] at hcs
   obtain ⟨rfl, rfl, rfl⟩ := hcs
   exact ⟨zs.take _, SlI.of_row hl hm (by simpa using hz) hcell, fun y hy => hwz y (List.mem_of_mem_take hy)⟩
 obtain ⟨a2, n2, c2, rfl⟩ := okWide_slice Tryd.underlying23 (hval 2 23 v2 rfl rfl)
 have k2 := h2
 have lt2 : ∀ x ∈ p2, x.block < W.heap.size := by obtain ⟨m, hm⟩ := k2; exact DataW.trod_lt m _ _ _ hm
 obtain ⟨f2', hf2'⟩ := h2
 obtain ⟨A2', n2', c2', x2, e2', s2, b2⟩ := open_lists hf2'
 obtain ⟨rfl, rfl, rfl⟩ : a2 = A2' ∧ n2 = n2' ∧ c2 = c2' := by simpa [Value.cells] using e2'
 clear hA0 hval0
 refine (walk a0 a1 n1 c1 x1 a2 n2 c2 x2 W (range_0 hL) (tabw_1 hL) w0 s1 b1 s2 b2).mono fun e W' ⟨he, bel⟩ => ?_
 subst he
 exact ⟨_, rfl, _, _, _, [], _, [], hW', trodAll_mk1 (shut_bool Tryd.underlying4 _), (trodAll_cons_mk (shut_int Tryd.underlying2 w0) (trodAll_cons_mk (Below.trod laidOut (by kernel_rfl) (of_decide_eq_true (by kernel_rfl)) k1 bel lt1) (trodAll_cons_mk (Below.trod laidOut (by kernel_rfl) (of_decide_eq_true (by kernel_rfl)) k2 bel lt2) trodAll_mk0))), rfl, bel.frame _, fun h => by cases h⟩
noncomputable def laidWorld (os : Os) : World :=
 { World.holding Tryd.prog os ⟨#[], #[], []⟩ with heap := (((World.holding Tryd.prog os ⟨#[], #[], []⟩).heap.modify 1 fun | .cells _ t frozen => .cells #[.int .i64 1, .int .i64 2000, .int .i64 0, .int .i64 0, .int .i64 2, .int .i64 2000, .int .i64 0, .int .i64 0, .int .i64 3, .int .i64 125, .int .i64 0, .int .i64 0, .int .i64 4, .int .i64 125, .int .i64 0, .int .i64 0, .int .i64 5, .int .i64 0, .int .i64 1, .int .i64 0, .int .i64 6, .int .i64 0, .int .i64 0, .int .i64 1, .int .i64 15, .int .i64 0, .int .i64 1968, .int .i64 0, .int .i64 16, .int .i64 0, .int .i64 0, .int .i64 123, .int .i64 23, .int .i64 125, .int .i64 0, .int .i64 121] t frozen | o => o).modify 0 fun | .cells _ t frozen => .cells #[.string ⟨([] : List UInt8).toArray⟩, .string ⟨([114, 105, 103, 104, 116] : List UInt8).toArray⟩, .string ⟨([114, 101, 102, 117, 115, 101] : List UInt8).toArray⟩, .string ⟨([115, 105, 108, 101, 110, 116] : List UInt8).toArray⟩, .string ⟨([99, 117, 116] : List UInt8).toArray⟩, .string ⟨([115, 112, 111, 105, 108] : List UInt8).toArray⟩, .string ⟨([111, 116, 104, 101, 114] : List UInt8).toArray⟩, .string ⟨([110, 111, 105, 115, 101] : List UInt8).toArray⟩] t frozen | o => o) }
theorem laid_met (os : Os) : laidMet Tryd.prog Rows.busPlaysRow.laid ((laidWorld os).forCall (fun _ _ => 0) ⟨#[], #[.int .i64 0, .slice none 0 0, .slice none 0 0], []⟩).memory :=
 laidMet_of_run' 8 (by kernel_rfl) (by kernel_rfl)
theorem reads (os : Os) {H : Type} (enc : TypeId × Value → H) : ∃ places, DataW.whole enc Tryd.prog ((laidWorld os).forCall (fun _ _ => 0) ⟨#[], #[.int .i64 0, .slice none 0 0, .slice none 0 0], []⟩).memory Tryd.f3.params.toList Rows.busPlaysSpec.vars false (#[.int .i64 0, .slice none 0 0, .slice none 0 0] : Array Value).toList 8 = some ([.lit (.int .i64 0), .nil, .nil], [], places) :=
 ⟨[], by kernel_rfl⟩
theorem lifted (os : Os) (started : os.Started) (H : Type) (enc : TypeId × Value → H) (F : Stop.Interp) :
  ReturnsInHanded {} Tryd.checked os 3 .any ((OpenSpec.ofChange Rows.busPlaysSpec).preRow enc Tryd.prog Tryd.f3 Rows.busPlaysRow.domain false Rows.busPlaysRow.laid) (((OpenSpec.ofChange Rows.busPlaysSpec).at F).post enc Tryd.prog Tryd.f3 false true false false) := by
 obtain ⟨places, hx⟩ := reads os enc
 refine returnsInHanded_of_row (C := Tryd.checked) (s := OpenSpec.ofChange Rows.busPlaysSpec) own started (by kernel_rfl) Tryd.func3
  (witness_row_at (enc := enc) (C := Tryd.checked) false (laidWorld os) #[.int .i64 0, .slice none 0 0, .slice none 0 0] rfl (by kernel_rfl) (by kernel_rfl) (by kernel_rfl)
   (OpenSpec.preRow_of_cond 8 hx (by kernel_rfl) (fun k hk => by cases hk) (by kernel_rfl) (laid_met os))) ?_
 intro W base args ds gs before hval hW _ hcond _ hL _ _
 exact contract H enc W base args ds gs before hval hW hL
theorem said : Rows.BusPlaysSaid :=
 OpenClaim.holds_of_cond 3 Tryd.f3 rfl rfl rfl rfl rfl rfl rfl ⟨rfl, rfl, rfl, rfl, rfl⟩ rfl rfl rfl rfl rfl (by kernel_rfl) Tryd.func3 (by kernel_rfl)
  (of_decide_eq_true (by kernel_rfl)) (by unfold Func.isWrapper; first | (rw [if_pos (by decide +kernel)]; kernel_rfl) | (rw [if_neg (by decide +kernel)]; exact ⟨rfl, rfl⟩))
  (fun os started H enc _ F => by rw [OpenClaim.pre_eq_preRow]; exact lifted os started H enc F)
theorem plain (f : FuncId) (fn : Func) (hf : Tryd.pinned.checked.prog.funcNamed "kilowatt/kilowattlaw22.BusPlays" = some f) (hfn : Tryd.pinned.checked.prog.funcs[f]? = some fn) :
  false = Tryd.pinned.checked.prog.looks [] ∧ ∀ (j : Nat) t, fn.params[j]? = some t → Tryd.pinned.checked.prog.wantsStandIn t = false := by
 obtain rfl : f = 3 := Option.some.inj ((show Tryd.prog.funcNamed "kilowatt/kilowattlaw22.BusPlays" = some 3 by kernel_rfl).symm.trans hf) |>.symm
 obtain rfl : fn = Tryd.f3 := (Option.some.inj (Tryd.func3.symm.trans hfn)).symm
 refine ⟨by kernel_rfl, fun j t ht => ?_⟩
 rw [Tryd.params3] at ht
 have hm : t ∈ ([2, 22, 23] : List Nat) := by simpa using Array.mem_of_getElem? ht
 have hall : (([2, 22, 23] : List Nat).all fun u => !Tryd.prog.wantsStandIn u) = true := by kernel_rfl
 exact (show Tryd.prog.wantsStandIn t = false by simpa using List.all_eq_true.1 hall t hm)
theorem proved : Rows.BusPlaysCardSaid :=
 Claim7.holds_tied_plain_at .later [] _ _ _ _ said (fun _ h => by cases h) (by kernel_rfl) (fun _ h => by cases h) busPlays_row_tie rfl ⟨rfl, rfl⟩ (by kernel_rfl) rfl plain (by kernel_rfl)
#print axioms proved
end Go.Proofs.YtcipleanckeoaaaDoor.busPlays
