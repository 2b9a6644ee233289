/- the blocks of a book are the document's: its numbers, by its entries -/
import Derived.Test.YtnnknnaimabehaaDoorRows
import Derived.Test.YtnnknnaimabehaaDoorCards
import Derived.Test.YtnnknnaimabehaaDoorTie
import Derived.Test.YtnnknnaimabehaaDoorMem
import Derived.Test.YtnnknnaimabehaaDoorTab
import Derived.Test.YtnnknnaimabehaaDoorTabs
import Derived.Test.YtnnknnaimabehaaDoorModBooks
import Derived.Test.YtnnknnaimabehaaDoorLedRow
import Derived.Test.YtnnknnaimabehaaDoorArrS
import Derived.WalkKit
import Derived.ProofKit
import Derived.OpenShut
import Derived.ShutString
import Derived.ChangeOld
import Derived.Below
import Derived.ChangeArms
import Derived.Deep.DeepHandedRow
import Derived.Lib.LaidTab
import Derived.Stop.LaidErr
namespace Go.Proofs.YtnnknnaimabehaaDoor.modelBooks
open Go.ChangeShapes Go.WideShapes Go.ChangeAt Go.RowKit
open Go.ChangeMaps (open_string shut_string)
set_option linter.unusedVariables false

theorem own : ownKnob Tryd.prog.godebug = none := by kernel_rfl
theorem laidOut : laidOutB Tryd.prog = true := by kernel_rfl
theorem g_0 : Tryd.prog.globalNamed "kilowatt/entry.words" = some 1 := by kernel_rfl
theorem gt_0 : (Tryd.prog.globals[1]?).map (·.type) = some 123 := by kernel_rfl
theorem g_1 : Tryd.prog.globalNamed "kilowatt/model.points" = some 0 := by kernel_rfl
theorem gt_1 : (Tryd.prog.globals[0]?).map (·.type) = some 89 := by kernel_rfl
theorem tabw_0 {W : World} (h : laidMet Tryd.prog Rows.modelBooksRow.laid W) : WordsT W := words_of_head rfl h
set_option maxRecDepth 100000 in
theorem range_1 {W : World} (h : laidMet Tryd.prog Rows.modelBooksRow.laid W) : W.rangeAt 0 0 [.int .i64 1, .int .i64 1, .int .i64 2, .int .i64 4, .int .i64 2, .int .i64 4, .int .i64 1, .int .i64 2, .int .i64 1, .int .i64 2, .int .i64 1, .int .i64 2, .int .i64 1, .int .i64 2, .int .i64 1, .int .i64 2, .int .i64 1, .int .i64 4, .int .i64 2, .int .i64 4, .int .i64 2, .int .i64 4, .int .i64 2, .int .i64 4, .int .i64 2, .int .i64 4, .int .i64 2, .int .i64 4, .int .i64 2, .int .i64 4, .int .i64 2, .int .i64 4, .int .i64 2, .int .i64 4] := by
  refine range_of_head (rows := [[1, 1], [2, 4], [2, 4], [1, 2], [1, 2], [1, 2], [1, 2], [1, 2], [1, 4], [2, 4], [2, 4], [2, 4], [2, 4], [2, 4], [2, 4], [2, 4], [2, 4]]) (m := 2) g_1 gt_1 Tryd.underlying89 Tryd.underlying42 (by kernel_rfl) (by kernel_rfl) rfl ?_ rfl ?_ (laidMet.tail h)
  · intro j f hj
    match j, hj with
    | 0, hj => obtain rfl := (Option.some.inj hj); exact ⟨rfl, by kernel_rfl, by kernel_rfl⟩
    | 1, hj => obtain rfl := (Option.some.inj hj); exact ⟨rfl, by kernel_rfl, by kernel_rfl⟩
    | _ + 2, hj => cases hj
  · intro i v hi
    match i, hi with
    | 0, hi => exact ⟨_, _, rfl, rfl, (Option.some.inj hi).symm⟩
    | 1, hi => exact ⟨_, _, rfl, rfl, (Option.some.inj hi).symm⟩
    | 2, hi => exact ⟨_, _, rfl, rfl, (Option.some.inj hi).symm⟩
    | 3, hi => exact ⟨_, _, rfl, rfl, (Option.some.inj hi).symm⟩
    | 4, hi => exact ⟨_, _, rfl, rfl, (Option.some.inj hi).symm⟩
    | 5, hi => exact ⟨_, _, rfl, rfl, (Option.some.inj hi).symm⟩
    | 6, hi => exact ⟨_, _, rfl, rfl, (Option.some.inj hi).symm⟩
    | 7, hi => exact ⟨_, _, rfl, rfl, (Option.some.inj hi).symm⟩
    | 8, hi => exact ⟨_, _, rfl, rfl, (Option.some.inj hi).symm⟩
    | 9, hi => exact ⟨_, _, rfl, rfl, (Option.some.inj hi).symm⟩
    | 10, hi => exact ⟨_, _, rfl, rfl, (Option.some.inj hi).symm⟩
    | 11, hi => exact ⟨_, _, rfl, rfl, (Option.some.inj hi).symm⟩
    | 12, hi => exact ⟨_, _, rfl, rfl, (Option.some.inj hi).symm⟩
    | 13, hi => exact ⟨_, _, rfl, rfl, (Option.some.inj hi).symm⟩
    | 14, hi => exact ⟨_, _, rfl, rfl, (Option.some.inj hi).symm⟩
    | 15, hi => exact ⟨_, _, rfl, rfl, (Option.some.inj hi).symm⟩
    | 16, hi => exact ⟨_, _, rfl, rfl, (Option.some.inj hi).symm⟩
    | 17, hi => exact ⟨_, _, rfl, rfl, (Option.some.inj hi).symm⟩
    | 18, hi => exact ⟨_, _, rfl, rfl, (Option.some.inj hi).symm⟩
    | 19, hi => exact ⟨_, _, rfl, rfl, (Option.some.inj hi).symm⟩
    | 20, hi => exact ⟨_, _, rfl, rfl, (Option.some.inj hi).symm⟩
    | 21, hi => exact ⟨_, _, rfl, rfl, (Option.some.inj hi).symm⟩
    | 22, hi => exact ⟨_, _, rfl, rfl, (Option.some.inj hi).symm⟩
    | 23, hi => exact ⟨_, _, rfl, rfl, (Option.some.inj hi).symm⟩
    | 24, hi => exact ⟨_, _, rfl, rfl, (Option.some.inj hi).symm⟩
    | 25, hi => exact ⟨_, _, rfl, rfl, (Option.some.inj hi).symm⟩
    | 26, hi => exact ⟨_, _, rfl, rfl, (Option.some.inj hi).symm⟩
    | 27, hi => exact ⟨_, _, rfl, rfl, (Option.some.inj hi).symm⟩
    | 28, hi => exact ⟨_, _, rfl, rfl, (Option.some.inj hi).symm⟩
    | 29, hi => exact ⟨_, _, rfl, rfl, (Option.some.inj hi).symm⟩
    | 30, hi => exact ⟨_, _, rfl, rfl, (Option.some.inj hi).symm⟩
    | 31, hi => exact ⟨_, _, rfl, rfl, (Option.some.inj hi).symm⟩
    | 32, hi => exact ⟨_, _, rfl, rfl, (Option.some.inj hi).symm⟩
    | 33, hi => exact ⟨_, _, rfl, rfl, (Option.some.inj hi).symm⟩
    | _ + 34, hi => cases hi

theorem walk (a0 : Option Addr) (n0 c0 : Nat) (x0 : List Ent) (x1 : List ByteArray) (a2 : Option Addr) (n2 c2 : Nat) (x2 : List Int) (w : World)   (t1 : w.rangeAt 0 0 [.int .i64 1, .int .i64 1, .int .i64 2, .int .i64 4, .int .i64 2, .int .i64 4, .int .i64 1, .int .i64 2, .int .i64 1, .int .i64 2, .int .i64 1, .int .i64 2, .int .i64 1, .int .i64 2, .int .i64 1, .int .i64 2, .int .i64 1, .int .i64 4, .int .i64 2, .int .i64 4, .int .i64 2, .int .i64 4, .int .i64 2, .int .i64 4, .int .i64 2, .int .i64 4, .int .i64 2, .int .i64 4, .int .i64 2, .int .i64 4, .int .i64 2, .int .i64 4, .int .i64 2, .int .i64 4]) (t0 : WordsT w) (s0 : EnI w a0 n0 x0) (b0 : n0 ≤ maxLen) (l1 : x1.length = 3) (b1 : ∀ x ∈ x1, x.size ≤ maxLen) (s2 : SlI w w.heap.size .i64 a2 n2 c2 x2) (b2 : ∀ x ∈ x2, (Lit.int .i64 x).wf = true) :
    Calls Tryd.prog 4 #[.slice a0 n0 c0, .agg (x1.map Value.string).toArray, .slice a2 n2 c2] w fun e w' => e = .returned (.bool true) ∧ Below w.heap.size w w' := by
  match x1, l1 with
  | [p0, p1, p2], _ => exact books_any x0 a0 n0 c0 p0 p1 p2 a2 n2 c2 x2 (fun m hm => bounds_i64 (b2 m hm)) w s0 s2 t0 t1

set_option maxHeartbeats 4000000 in
set_option maxRecDepth 100000 in
theorem contract (H : Type) (enc : TypeId × Value → H) (W : World) (base : Nat) (args : Array Value) (ds gs : List (DataW H)) (before : List MemPlace)
    (hval0 : ∀ (j : Nat) t v, Tryd.f4.params[j]? = some t → args[j]? = some v → Value.okWide Tryd.prog W .any base t v)
    (hW : DataW.Whole enc Tryd.prog Tryd.f4.params.toList Rows.modelBooksSpec.vars false W args.toList ds gs before) (hL : laidMet Tryd.prog Rows.modelBooksRow.laid W) :
    Calls Tryd.prog 4 args W fun e W' => ∃ v, e = .returned v ∧ Rows.modelBooksSpec.post enc Tryd.prog Tryd.f4 false true false false W args v W' := by
  have hval : ∀ (j : Nat) t v, Tryd.f4.params[j]? = some t → args[j]? = some v → Value.okWide Tryd.prog W .any base t v := hval0
  have hW' := hW
  obtain ⟨p, q, hA0, hV, rfl, hfz, hnd⟩ := hW
  have hA : DataW.TrodAll enc Tryd.prog W 0 (fun _ => true) true Tryd.f4.params.toList args.toList ds p := hA0
  rw [Tryd.params4] at hA hval
  obtain ⟨v0, vs0, d0, ds0, p0, q0, hargs, rfl, rfl, h0, r0⟩ := trodAll_cons hA
  obtain ⟨v1, vs1, d1, ds1, p1, q1, rfl, rfl, rfl, h1, r1⟩ := trodAll_cons r0
  obtain ⟨v2, vs2, d2, ds2, p2, q2, rfl, rfl, rfl, h2, r2⟩ := trodAll_cons r1
  obtain ⟨rfl, rfl, rfl⟩ := trodAll_nil r2
  obtain rfl : args = #[v0, v1, v2] := by cases args; simp_all
  obtain ⟨rfl, rfl⟩ := trodVars_none hV
  obtain ⟨a0, n0, c0, rfl⟩ := okWide_slice Tryd.underlying53 (hval 0 53 v0 rfl rfl)
  have k0 := h0
  have lt0 : ∀ x ∈ p0, x.block < W.heap.size := by obtain ⟨m, hm⟩ := k0; exact DataW.trod_lt m _ _ _ hm
  obtain ⟨f0', hf0'⟩ := h0
  obtain ⟨A0', n0', c0', x0, e0', s0, b0⟩ := open_ents hf0'
  obtain ⟨rfl, rfl, rfl⟩ : a0 = A0' ∧ n0 = n0' ∧ c0 = c0' := by simpa [Value.cells] using e0'
  obtain ⟨c1, rfl, _⟩ := okWide_arr Tryd.underlying48 (hval 1 48 v1 rfl rfl)
  have k1 := h1
  have lt1 : ∀ x ∈ p1, x.block < W.heap.size := by obtain ⟨m, hm⟩ := k1; exact DataW.trod_lt m _ _ _ hm
  obtain ⟨x1, rfl, l1, b1⟩ := open_arr_strs Tryd.underlying48 Tryd.underlying9 (by kernel_rfl) (by kernel_rfl) h1
  obtain ⟨a2, n2, c2, rfl⟩ := okWide_slice Tryd.underlying49 (hval 2 49 v2 rfl rfl)
  have k2 := h2
  have lt2 : ∀ x ∈ p2, x.block < W.heap.size := by obtain ⟨m, hm⟩ := k2; exact DataW.trod_lt m _ _ _ hm
  obtain ⟨f2', hf2'⟩ := h2
  obtain ⟨x2, s2, b2⟩ : ∃ xs, SlI W W.heap.size .i64 a2 n2 c2 xs ∧ ∀ x ∈ xs, (Lit.int .i64 x).wf = true := by
    rcases open_ints Tryd.underlying49 Tryd.underlying3 (by kernel_rfl) hf2' with ⟨hcs, _⟩ | ⟨x, l, c, zs, hcs, _, hl, hm, hz, _, hcell, hwz⟩
    · simp [Value.cells] at hcs
      obtain ⟨rfl, rfl, rfl⟩ := hcs
      exact ⟨[], SlI.nil _ _ _, by simp⟩
    · simp [Value.cells] at hcs
      obtain ⟨rfl, rfl, rfl⟩ := hcs
      exact ⟨zs.take _, SlI.of_row hl hm (by simpa using hz) hcell, fun y hy => hwz y (List.mem_of_mem_take hy)⟩
  clear hA0 hval0
  refine (walk a0 n0 c0 x0 x1 a2 n2 c2 x2 W (range_1 hL) (tabw_0 hL) s0 b0 l1 b1 s2 b2).mono fun e W' ⟨he, bel⟩ => ?_
  subst he
  exact ⟨_, rfl, _, _, _, [], _, [], hW', trodAll_mk1 (shut_bool Tryd.underlying4 _), (trodAll_cons_mk (Below.trod laidOut (by kernel_rfl) (of_decide_eq_true (by kernel_rfl)) k0 bel lt0) (trodAll_cons_mk (Below.trod laidOut (by kernel_rfl) (of_decide_eq_true (by kernel_rfl)) k1 bel lt1) (trodAll_cons_mk (Below.trod laidOut (by kernel_rfl) (of_decide_eq_true (by kernel_rfl)) k2 bel lt2) trodAll_mk0))), rfl, bel.frame _, fun h => by cases h⟩

/-- A world for the witness: the settled one, the listed tables as their initialisers lay them. -/
noncomputable def laidWorld (os : Os) : World :=
  { World.holding Tryd.prog os ⟨#[], #[], []⟩ with heap := (((World.holding Tryd.prog os ⟨#[], #[], []⟩).heap.modify 1 fun | .cells _ t frozen => .cells #[.string ⟨([] : List UInt8).toArray⟩, .string ⟨([105, 110, 116, 101, 114, 118, 97, 108] : List UInt8).toArray⟩, .string ⟨([115, 117, 115, 112, 101, 99, 116] : List UInt8).toArray⟩, .string ⟨([114, 101, 112, 108, 97, 99, 101] : List UInt8).toArray⟩, .string ⟨([99, 111, 114, 114, 101, 99, 116] : List UInt8).toArray⟩, .string ⟨([115, 101, 97, 108] : List UInt8).toArray⟩] t frozen | o => o).modify 0 fun | .cells _ t frozen => .cells #[.int .i64 1, .int .i64 1, .int .i64 2, .int .i64 4, .int .i64 2, .int .i64 4, .int .i64 1, .int .i64 2, .int .i64 1, .int .i64 2, .int .i64 1, .int .i64 2, .int .i64 1, .int .i64 2, .int .i64 1, .int .i64 2, .int .i64 1, .int .i64 4, .int .i64 2, .int .i64 4, .int .i64 2, .int .i64 4, .int .i64 2, .int .i64 4, .int .i64 2, .int .i64 4, .int .i64 2, .int .i64 4, .int .i64 2, .int .i64 4, .int .i64 2, .int .i64 4, .int .i64 2, .int .i64 4] t frozen | o => o) }
set_option maxRecDepth 100000 in
theorem laid_met (os : Os) : laidMet Tryd.prog Rows.modelBooksRow.laid ((laidWorld os).forCall (fun _ _ => 0) ⟨#[], #[.slice none 0 0, .agg #[.string ByteArray.empty, .string ByteArray.empty, .string ByteArray.empty], .slice none 0 0], []⟩).memory :=
  laidMet_of_run' 8 (by kernel_rfl) (by kernel_rfl)
set_option maxRecDepth 100000 in
theorem reads (os : Os) {H : Type} (enc : TypeId × Value → H) : ∃ places, DataW.whole enc Tryd.prog ((laidWorld os).forCall (fun _ _ => 0) ⟨#[], #[.slice none 0 0, .agg #[.string ByteArray.empty, .string ByteArray.empty, .string ByteArray.empty], .slice none 0 0], []⟩).memory Tryd.f4.params.toList Rows.modelBooksSpec.vars false (#[.slice none 0 0, .agg #[.string ByteArray.empty, .string ByteArray.empty, .string ByteArray.empty], .slice none 0 0] : Array Value).toList 8 = some ([.nil, .agg [.lit (.string []), .lit (.string []), .lit (.string [])], .nil], [], places) :=
  ⟨[], by kernel_rfl⟩
set_option maxRecDepth 100000 in
theorem lifted (os : Os) (started : os.Started) (H : Type) (enc : TypeId × Value → H) (F : Stop.Interp) :
    ReturnsInHanded {} Tryd.checked os 4 .any ((OpenSpec.ofChange Rows.modelBooksSpec).preRow enc Tryd.prog Tryd.f4 Rows.modelBooksRow.domain false Rows.modelBooksRow.laid) (((OpenSpec.ofChange Rows.modelBooksSpec).at F).post enc Tryd.prog Tryd.f4 false true false false) := by
  obtain ⟨places, hx⟩ := reads os enc
  refine returnsInHanded_of_row (C := Tryd.checked) (s := OpenSpec.ofChange Rows.modelBooksSpec) own started (by kernel_rfl) Tryd.func4
    (witness_row_at (enc := enc) (C := Tryd.checked) false (laidWorld os) #[.slice none 0 0, .agg #[.string ByteArray.empty, .string ByteArray.empty, .string ByteArray.empty], .slice none 0 0] rfl (by kernel_rfl) (by kernel_rfl) (by kernel_rfl)
      (OpenSpec.preRow_of_cond 8 hx (by kernel_rfl) (fun k hk => by cases hk) (by kernel_rfl) (laid_met os))) ?_
  intro W base args ds gs before hval hW _ hcond _ hL _ _
  exact contract H enc W base args ds gs before hval hW hL
theorem said : Rows.ModelBooksSaid :=
  OpenClaim.holds_of_cond 4 Tryd.f4 rfl rfl rfl rfl rfl rfl rfl ⟨rfl, rfl, rfl, rfl, rfl⟩ rfl rfl rfl rfl rfl (by kernel_rfl) Tryd.func4 (by kernel_rfl)
    (of_decide_eq_true (by kernel_rfl)) (by unfold Func.isWrapper; first | (rw [if_pos (by decide +kernel)]; kernel_rfl) | (rw [if_neg (by decide +kernel)]; exact ⟨rfl, rfl⟩))
    (fun os started H enc _ F => by rw [OpenClaim.pre_eq_preRow]; exact lifted os started H enc F)
theorem plain (f : FuncId) (fn : Func) (hf : Tryd.pinned.checked.prog.funcNamed "kilowatt/kilowattlaw26.ModelBooks" = some f) (hfn : Tryd.pinned.checked.prog.funcs[f]? = some fn) :
    false = Tryd.pinned.checked.prog.looks [] ∧ ∀ (j : Nat) t, fn.params[j]? = some t → Tryd.pinned.checked.prog.wantsStandIn t = false := by
  obtain rfl : f = 4 := Option.some.inj ((show Tryd.prog.funcNamed "kilowatt/kilowattlaw26.ModelBooks" = some 4 by kernel_rfl).symm.trans hf) |>.symm
  obtain rfl : fn = Tryd.f4 := (Option.some.inj (Tryd.func4.symm.trans hfn)).symm
  refine ⟨by kernel_rfl, fun j t ht => ?_⟩
  rw [Tryd.params4] at ht
  have hm : t ∈ ([53, 48, 49] : List Nat) := by simpa using Array.mem_of_getElem? ht
  have hall : (([53, 48, 49] : List Nat).all fun u => !Tryd.prog.wantsStandIn u) = true := by kernel_rfl
  exact (show Tryd.prog.wantsStandIn t = false by simpa using List.all_eq_true.1 hall t hm)
/-- The statement: the card. -/
theorem proved : Rows.ModelBooksCardSaid :=
  Claim7.holds_tied_plain_at .later [] _ _ _ _ said (fun _ h => by cases h) (by kernel_rfl) (fun _ h => by cases h) modelBooks_row_tie rfl ⟨rfl, rfl⟩ (by kernel_rfl) rfl plain (by kernel_rfl)
#print axioms proved
end Go.Proofs.YtnnknnaimabehaaDoor.modelBooks
