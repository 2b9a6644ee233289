/- Texts of dates and moments, there and back, and weekdays of months, are the document's: for any moment, text (100 bytes), weekday and number the law CivilTexts returns true. No condition. -/
import Derived.Test.YtgeocjodkkkiiaaDoorRows
import Derived.Test.YtgeocjodkkkiiaaDoorCards
import Derived.Test.YtgeocjodkkkiiaaDoorTie
import Derived.Test.YtgeocjodkkkiiaaDoorMem
import Derived.Test.YtgeocjodkkkiiaaDoorTab
import Derived.Test.YtgeocjodkkkiiaaDoorCivTexts
import Derived.WalkKit
import Derived.ProofKit
import Derived.OpenShut
import Derived.ShutString
import Derived.ChangeOld
import Derived.Below
import Derived.ChangeArms
import Derived.Deep.DeepHandedRow
import Derived.Lib.LaidTab
import Derived.Stop.LaidErr
namespace Go.Proofs.YtgeocjodkkkiiaaDoor.civilTexts
open Go.ChangeShapes Go.WideShapes Go.ChangeAt Go.RowKit
open Go.ChangeMaps (open_string shut_string)
set_option linter.unusedVariables false

theorem own : ownKnob Tryd.prog.godebug = none := by kernel_rfl
theorem laidOut : laidOutB Tryd.prog = true := by kernel_rfl
theorem g_0 : Tryd.prog.globalNamed "math/bits.deBruijn32tab" = some 3 := by kernel_rfl
theorem gt_0 : (Tryd.prog.globals[3]?).map (·.type) = some 103 := by kernel_rfl
theorem tab_0 {W : World} (h : laidMet Tryd.prog Rows.civilTextsRow.laid W) : Tab W 3 .u8 [0, 1, 28, 2, 29, 14, 24, 3, 30, 22, 20, 15, 25, 17, 4, 8, 31, 27, 13, 23, 21, 19, 16, 7, 26, 12, 18, 6, 11, 5, 10, 9] := by
  have h1 : Lib.TabIs Tryd.prog W "math/bits.deBruijn32tab" .u8 [0, 1, 28, 2, 29, 14, 24, 3, 30, 22, 20, 15, 25, 17, 4, 8, 31, 27, 13, 23, 21, 19, 16, 7, 26, 12, 18, 6, 11, 5, 10, 9] := Lib.tabIs_of_head g_0 gt_0 Tryd.underlying103 Tryd.underlying5 (by kernel_rfl) (by kernel_rfl) h
  exact fun i hi => h1.cell g_0 i hi
theorem lab_0 {W : World} (h : laidMet Tryd.prog Rows.civilTextsRow.laid W) : Lib.TabIs Tryd.prog W "math/bits.deBruijn32tab" .u8 [0, 1, 28, 2, 29, 14, 24, 3, 30, 22, 20, 15, 25, 17, 4, 8, 31, 27, 13, 23, 21, 19, 16, 7, 26, 12, 18, 6, 11, 5, 10, 9] :=
  Lib.tabIs_of_head g_0 gt_0 Tryd.underlying103 Tryd.underlying5 (by kernel_rfl) (by kernel_rfl) h
theorem g_1 : Tryd.prog.globalNamed "math/bits.deBruijn64tab" = some 4 := by kernel_rfl
theorem gt_1 : (Tryd.prog.globals[4]?).map (·.type) = some 104 := by kernel_rfl
theorem tab_1 {W : World} (h : laidMet Tryd.prog Rows.civilTextsRow.laid W) : Tab W 4 .u8 [0, 1, 56, 2, 57, 49, 28, 3, 61, 58, 42, 50, 38, 29, 17, 4, 62, 47, 59, 36, 45, 43, 51, 22, 53, 39, 33, 30, 24, 18, 12, 5, 63, 55, 48, 27, 60, 41, 37, 16, 46, 35, 44, 21, 52, 32, 23, 11, 54, 26, 40, 15, 34, 20, 31, 10, 25, 14, 19, 9, 13, 8, 7, 6] := by
  have h1 : Lib.TabIs Tryd.prog W "math/bits.deBruijn64tab" .u8 [0, 1, 56, 2, 57, 49, 28, 3, 61, 58, 42, 50, 38, 29, 17, 4, 62, 47, 59, 36, 45, 43, 51, 22, 53, 39, 33, 30, 24, 18, 12, 5, 63, 55, 48, 27, 60, 41, 37, 16, 46, 35, 44, 21, 52, 32, 23, 11, 54, 26, 40, 15, 34, 20, 31, 10, 25, 14, 19, 9, 13, 8, 7, 6] := Lib.tabIs_of_head g_1 gt_1 Tryd.underlying104 Tryd.underlying5 (by kernel_rfl) (by kernel_rfl) (laidMet.tail h)
  exact fun i hi => h1.cell g_1 i hi
theorem lab_1 {W : World} (h : laidMet Tryd.prog Rows.civilTextsRow.laid W) : Lib.TabIs Tryd.prog W "math/bits.deBruijn64tab" .u8 [0, 1, 56, 2, 57, 49, 28, 3, 61, 58, 42, 50, 38, 29, 17, 4, 62, 47, 59, 36, 45, 43, 51, 22, 53, 39, 33, 30, 24, 18, 12, 5, 63, 55, 48, 27, 60, 41, 37, 16, 46, 35, 44, 21, 52, 32, 23, 11, 54, 26, 40, 15, 34, 20, 31, 10, 25, 14, 19, 9, 13, 8, 7, 6] :=
  Lib.tabIs_of_head g_1 gt_1 Tryd.underlying104 Tryd.underlying5 (by kernel_rfl) (by kernel_rfl) (laidMet.tail h)
theorem g_2 : Tryd.prog.globalNamed "internal/strconv.uint64pow10" = some 1 := by kernel_rfl
theorem gt_2 : (Tryd.prog.globals[1]?).map (·.type) = some 99 := by kernel_rfl
theorem tab_2 {W : World} (h : laidMet Tryd.prog Rows.civilTextsRow.laid W) : Tab W 1 .u64 [1, 10, 100, 1000, 10000, 100000, 1000000, 10000000, 100000000, 1000000000, 10000000000, 100000000000, 1000000000000, 10000000000000, 100000000000000, 1000000000000000, 10000000000000000, 100000000000000000, 1000000000000000000, 10000000000000000000] := by
  have h1 : Lib.TabIs Tryd.prog W "internal/strconv.uint64pow10" .u64 [1, 10, 100, 1000, 10000, 100000, 1000000, 10000000, 100000000, 1000000000, 10000000000, 100000000000, 1000000000000, 10000000000000, 100000000000000, 1000000000000000, 10000000000000000, 100000000000000000, 1000000000000000000, 10000000000000000000] := Lib.tabIs_of_head g_2 gt_2 Tryd.underlying99 Tryd.underlying86 (by kernel_rfl) (by kernel_rfl) (laidMet.tail (laidMet.tail h))
  exact fun i hi => h1.cell g_2 i hi
theorem lab_2 {W : World} (h : laidMet Tryd.prog Rows.civilTextsRow.laid W) : Lib.TabIs Tryd.prog W "internal/strconv.uint64pow10" .u64 [1, 10, 100, 1000, 10000, 100000, 1000000, 10000000, 100000000, 1000000000, 10000000000, 100000000000, 1000000000000, 10000000000000, 100000000000000, 1000000000000000, 10000000000000000, 100000000000000000, 1000000000000000000, 10000000000000000000] :=
  Lib.tabIs_of_head g_2 gt_2 Tryd.underlying99 Tryd.underlying86 (by kernel_rfl) (by kernel_rfl) (laidMet.tail (laidMet.tail h))
theorem g_3 : Tryd.prog.globalNamed "kilowatt/civil.lengths" = some 0 := by kernel_rfl
theorem gt_3 : (Tryd.prog.globals[0]?).map (·.type) = some 61 := by kernel_rfl
theorem tab_3 {W : World} (h : laidMet Tryd.prog Rows.civilTextsRow.laid W) : Tab W 0 .i64 [31, 28, 31, 30, 31, 30, 31, 31, 30, 31, 30, 31] := by
  have h1 : Lib.TabIs Tryd.prog W "kilowatt/civil.lengths" .i64 [31, 28, 31, 30, 31, 30, 31, 31, 30, 31, 30, 31] := Lib.tabIs_of_head g_3 gt_3 Tryd.underlying61 Tryd.underlying3 (by kernel_rfl) (by kernel_rfl) (laidMet.tail (laidMet.tail (laidMet.tail h)))
  exact fun i hi => h1.cell g_3 i hi

theorem list_6 {α : Type} {l : List α} (h : l.length = 6) : ∃ c0 c1 c2 c3 c4 c5, l = [c0, c1, c2, c3, c4, c5] := by
  match l, h with
  | [c0, c1, c2, c3, c4, c5], _ => exact ⟨c0, c1, c2, c3, c4, c5, rfl⟩
theorem walk (a0_1 : Int) (a0_2 : Int) (a0_3 : Int) (a0_4 : Int) (a0_5 : Int) (a0_6 : Int) (a1 : ByteArray) (a2 : Int) (a3 : Int) (w : World) (l0 : Lib.TabIs Tryd.prog w "math/bits.deBruijn32tab" .u8 [0, 1, 28, 2, 29, 14, 24, 3, 30, 22, 20, 15, 25, 17, 4, 8, 31, 27, 13, 23, 21, 19, 16, 7, 26, 12, 18, 6, 11, 5, 10, 9]) (l1 : Lib.TabIs Tryd.prog w "math/bits.deBruijn64tab" .u8 [0, 1, 56, 2, 57, 49, 28, 3, 61, 58, 42, 50, 38, 29, 17, 4, 62, 47, 59, 36, 45, 43, 51, 22, 53, 39, 33, 30, 24, 18, 12, 5, 63, 55, 48, 27, 60, 41, 37, 16, 46, 35, 44, 21, 52, 32, 23, 11, 54, 26, 40, 15, 34, 20, 31, 10, 25, 14, 19, 9, 13, 8, 7, 6]) (l2 : Lib.TabIs Tryd.prog w "internal/strconv.uint64pow10" .u64 [1, 10, 100, 1000, 10000, 100000, 1000000, 10000000, 100000000, 1000000000, 10000000000, 100000000000, 1000000000000, 10000000000000, 100000000000000, 1000000000000000, 10000000000000000, 100000000000000000, 1000000000000000000, 10000000000000000000]) (t0 : Tab w 3 .u8 [0, 1, 28, 2, 29, 14, 24, 3, 30, 22, 20, 15, 25, 17, 4, 8, 31, 27, 13, 23, 21, 19, 16, 7, 26, 12, 18, 6, 11, 5, 10, 9]) (t1 : Tab w 4 .u8 [0, 1, 56, 2, 57, 49, 28, 3, 61, 58, 42, 50, 38, 29, 17, 4, 62, 47, 59, 36, 45, 43, 51, 22, 53, 39, 33, 30, 24, 18, 12, 5, 63, 55, 48, 27, 60, 41, 37, 16, 46, 35, 44, 21, 52, 32, 23, 11, 54, 26, 40, 15, 34, 20, 31, 10, 25, 14, 19, 9, 13, 8, 7, 6]) (t2 : Tab w 1 .u64 [1, 10, 100, 1000, 10000, 100000, 1000000, 10000000, 100000000, 1000000000, 10000000000, 100000000000, 1000000000000, 10000000000000, 100000000000000, 1000000000000000, 10000000000000000, 100000000000000000, 1000000000000000000, 10000000000000000000]) (t3 : Tab w 0 .i64 [31, 28, 31, 30, 31, 30, 31, 31, 30, 31, 30, 31]) (w0_1 : (Lit.int .i64 a0_1).wf = true) (w0_2 : (Lit.int .i64 a0_2).wf = true) (w0_3 : (Lit.int .i64 a0_3).wf = true) (w0_4 : (Lit.int .i64 a0_4).wf = true) (w0_5 : (Lit.int .i64 a0_5).wf = true) (w0_6 : (Lit.int .i64 a0_6).wf = true) (w1 : a1.size ≤ maxLen) (w2 : (Lit.int .i64 a2).wf = true) (w3 : (Lit.int .i64 a3).wf = true) :
    Calls Tryd.prog 7 #[.agg #[.int .i64 a0_1, .int .i64 a0_2, .int .i64 a0_3, .int .i64 a0_4, .int .i64 a0_5, .int .i64 a0_6], .string a1, .int .i64 a2, .int .i64 a3] w fun e w' => e = .returned (.bool true) ∧ Below w.heap.size w w' := by
  have hp : P10 w := by
    have e : Lib.pow10Tab = [1, 10, 100, 1000, 10000, 100000, 1000000, 10000000, 100000000, 1000000000, 10000000000, 100000000000, 1000000000000, 10000000000000, 100000000000000, 1000000000000000, 10000000000000000, 100000000000000000, 1000000000000000000, 10000000000000000000] := by decide +kernel
    unfold P10
    rw [e]
    exact l2
  exact law_texts a0_1 a0_2 a0_3 a0_4 a0_5 a0_6 a1 a2 a3 w t3 hp

set_option maxHeartbeats 4000000 in
set_option maxRecDepth 100000 in
theorem contract (H : Type) (enc : TypeId × Value → H) (W : World) (base : Nat) (args : Array Value) (ds gs : List (DataW H)) (before : List MemPlace)
    (hval0 : ∀ (j : Nat) t v, Tryd.f7.params[j]? = some t → args[j]? = some v → Value.okWide Tryd.prog W .any base t v)
    (hW : DataW.Whole enc Tryd.prog Tryd.f7.params.toList Rows.civilTextsSpec.vars false W args.toList ds gs before) (hL : laidMet Tryd.prog Rows.civilTextsRow.laid W) :
    Calls Tryd.prog 7 args W fun e W' => ∃ v, e = .returned v ∧ Rows.civilTextsSpec.post enc Tryd.prog Tryd.f7 false true false false W args v W' := by
  have hval : ∀ (j : Nat) t v, Tryd.f7.params[j]? = some t → args[j]? = some v → Value.okWide Tryd.prog W .any base t v := hval0
  have hW' := hW
  obtain ⟨p, q, hA0, hV, rfl, hfz, hnd⟩ := hW
  have hA : DataW.TrodAll enc Tryd.prog W 0 (fun _ => true) true Tryd.f7.params.toList args.toList ds p := hA0
  rw [Tryd.params7] at hA hval
  obtain ⟨v0, vs0, d0, ds0, p0, q0, hargs, rfl, rfl, h0, r0⟩ := trodAll_cons hA
  obtain ⟨v1, vs1, d1, ds1, p1, q1, rfl, rfl, rfl, h1, r1⟩ := trodAll_cons r0
  obtain ⟨v2, vs2, d2, ds2, p2, q2, rfl, rfl, rfl, h2, r2⟩ := trodAll_cons r1
  obtain ⟨v3, vs3, d3, ds3, p3, q3, rfl, rfl, rfl, h3, r3⟩ := trodAll_cons r2
  obtain ⟨rfl, rfl, rfl⟩ := trodAll_nil r3
  obtain rfl : args = #[v0, v1, v2, v3] := by cases args; simp_all
  obtain ⟨rfl, rfl⟩ := trodVars_none hV
  obtain ⟨⟨cc0⟩, rfl, sz0⟩ := okWide_struct Tryd.underlying41 (hval 0 41 v0 rfl rfl)
  have k0 := h0
  have lt0 : ∀ x ∈ p0, x.block < W.heap.size := by obtain ⟨m, hm⟩ := k0; exact DataW.trod_lt m _ _ _ hm
  obtain ⟨c0_0, c0_1, c0_2, c0_3, c0_4, c0_5, rfl⟩ := list_6 (show cc0.length = 6 from sz0.trans (by kernel_rfl))
  obtain ⟨f0', hf0'⟩ := h0
  simp only [Value.cells] at hf0'
  obtain ⟨xs1', m1', _, _, _, len1', at1'⟩ := DataW.trod_struct Tryd.underlying41 hf0'
  have g2' : DataW.trod enc Tryd.prog W 0 (fun _ => true) true m1' 23 (([c0_0, c0_1, c0_2, c0_3, c0_4, c0_5].drop 0).take (Tryd.prog.cellsOf 23)) = xs1'[0]? := at1' 0 _ rfl
  rw [show xs1'[0]? = some (xs1'[0]'(by rw [len1']; decide)) from List.getElem?_eq_getElem _, show Tryd.prog.cellsOf 23 = 3 by kernel_rfl] at g2'
  simp only [List.drop_zero, List.take_succ_cons, List.take_zero] at g2'
  obtain ⟨xs3', m3', _, _, _, len3', at3'⟩ := DataW.trod_struct Tryd.underlying23 g2'
  have g4' : DataW.trod enc Tryd.prog W 0 (fun _ => true) true m3' 3 (([c0_0, c0_1, c0_2].drop 0).take (Tryd.prog.cellsOf 3)) = xs3'[0]? := at3' 0 _ rfl
  rw [show xs3'[0]? = some (xs3'[0]'(by rw [len3']; decide)) from List.getElem?_eq_getElem _, show Tryd.prog.cellsOf 3 = 1 by kernel_rfl] at g4'
  simp only [List.drop_zero, List.take_succ_cons, List.take_zero] at g4'
  obtain ⟨a0_1, e4', _, w0_1⟩ := DataW.trod_int Tryd.underlying3 g4'
  obtain rfl : c0_0 = .int .i64 a0_1 := by simpa using e4'
  have g5' : DataW.trod enc Tryd.prog W 0 (fun _ => true) true m3' 3 (([.int .i64 a0_1, c0_1, c0_2].drop 1).take (Tryd.prog.cellsOf 3)) = xs3'[1]? := at3' 1 _ rfl
  rw [show xs3'[1]? = some (xs3'[1]'(by rw [len3']; decide)) from List.getElem?_eq_getElem _, show Tryd.prog.cellsOf 3 = 1 by kernel_rfl] at g5'
  simp only [List.drop_zero, List.drop_succ_cons, List.take_succ_cons, List.take_zero] at g5'
  obtain ⟨a0_2, e5', _, w0_2⟩ := DataW.trod_int Tryd.underlying3 g5'
  obtain rfl : c0_1 = .int .i64 a0_2 := by simpa using e5'
  have g6' : DataW.trod enc Tryd.prog W 0 (fun _ => true) true m3' 3 (([.int .i64 a0_1, .int .i64 a0_2, c0_2].drop 2).take (Tryd.prog.cellsOf 3)) = xs3'[2]? := at3' 2 _ rfl
  rw [show xs3'[2]? = some (xs3'[2]'(by rw [len3']; decide)) from List.getElem?_eq_getElem _, show Tryd.prog.cellsOf 3 = 1 by kernel_rfl] at g6'
  simp only [List.drop_zero, List.drop_succ_cons, List.take_succ_cons, List.take_zero] at g6'
  obtain ⟨a0_3, e6', _, w0_3⟩ := DataW.trod_int Tryd.underlying3 g6'
  obtain rfl : c0_2 = .int .i64 a0_3 := by simpa using e6'
  have g7' : DataW.trod enc Tryd.prog W 0 (fun _ => true) true m1' 3 (([.int .i64 a0_1, .int .i64 a0_2, .int .i64 a0_3, c0_3, c0_4, c0_5].drop 3).take (Tryd.prog.cellsOf 3)) = xs1'[1]? := at1' 1 _ rfl
  rw [show xs1'[1]? = some (xs1'[1]'(by rw [len1']; decide)) from List.getElem?_eq_getElem _, show Tryd.prog.cellsOf 3 = 1 by kernel_rfl] at g7'
  simp only [List.drop_zero, List.drop_succ_cons, List.take_succ_cons, List.take_zero] at g7'
  obtain ⟨a0_4, e7', _, w0_4⟩ := DataW.trod_int Tryd.underlying3 g7'
  obtain rfl : c0_3 = .int .i64 a0_4 := by simpa using e7'
  have g8' : DataW.trod enc Tryd.prog W 0 (fun _ => true) true m1' 3 (([.int .i64 a0_1, .int .i64 a0_2, .int .i64 a0_3, .int .i64 a0_4, c0_4, c0_5].drop 4).take (Tryd.prog.cellsOf 3)) = xs1'[2]? := at1' 2 _ rfl
  rw [show xs1'[2]? = some (xs1'[2]'(by rw [len1']; decide)) from List.getElem?_eq_getElem _, show Tryd.prog.cellsOf 3 = 1 by kernel_rfl] at g8'
  simp only [List.drop_zero, List.drop_succ_cons, List.take_succ_cons, List.take_zero] at g8'
  obtain ⟨a0_5, e8', _, w0_5⟩ := DataW.trod_int Tryd.underlying3 g8'
  obtain rfl : c0_4 = .int .i64 a0_5 := by simpa using e8'
  have g9' : DataW.trod enc Tryd.prog W 0 (fun _ => true) true m1' 3 (([.int .i64 a0_1, .int .i64 a0_2, .int .i64 a0_3, .int .i64 a0_4, .int .i64 a0_5, c0_5].drop 5).take (Tryd.prog.cellsOf 3)) = xs1'[3]? := at1' 3 _ rfl
  rw [show xs1'[3]? = some (xs1'[3]'(by rw [len1']; decide)) from List.getElem?_eq_getElem _, show Tryd.prog.cellsOf 3 = 1 by kernel_rfl] at g9'
  simp only [List.drop_zero, List.drop_succ_cons, List.take_succ_cons, List.take_zero] at g9'
  obtain ⟨a0_6, e9', _, w0_6⟩ := DataW.trod_int Tryd.underlying3 g9'
  obtain rfl : c0_5 = .int .i64 a0_6 := by simpa using e9'
  obtain ⟨a1, rfl, rfl, rfl, w1⟩ := open_string Tryd.underlying9 (hval 1 9 v1 rfl rfl) h1
  obtain ⟨a2, rfl, rfl, rfl, w2⟩ := open_int Tryd.underlying3 (hval 2 3 v2 rfl rfl) h2
  obtain ⟨a3, rfl, rfl, rfl, w3⟩ := open_int Tryd.underlying3 (hval 3 3 v3 rfl rfl) h3
  clear hA0 hval0
  refine (walk a0_1 a0_2 a0_3 a0_4 a0_5 a0_6 a1 a2 a3 W (lab_0 hL) (lab_1 hL) (lab_2 hL) (tab_0 hL) (tab_1 hL) (tab_2 hL) (tab_3 hL) w0_1 w0_2 w0_3 w0_4 w0_5 w0_6 w1 w2 w3).mono fun e W' ⟨he, bel⟩ => ?_
  subst he
  exact ⟨_, rfl, _, _, _, [], _, [], hW', trodAll_mk1 (shut_bool Tryd.underlying4 _), (trodAll_cons_mk (Below.trod laidOut (by kernel_rfl) (of_decide_eq_true (by kernel_rfl)) k0 bel lt0) (trodAll_cons_mk (shut_string Tryd.underlying9 w1) (trodAll_cons_mk (shut_int Tryd.underlying3 w2) (trodAll_cons_mk (shut_int Tryd.underlying3 w3) trodAll_mk0)))), rfl, bel.frame _, fun h => by cases h⟩

/-- A world for the witness: the settled one, the listed tables as their initialisers lay them. -/
noncomputable def laidWorld (os : Os) : World :=
  { World.holding Tryd.prog os ⟨#[], #[], []⟩ with heap := (((((World.holding Tryd.prog os ⟨#[], #[], []⟩).heap.modify 3 fun | .cells _ t frozen => .cells #[.int .u8 0, .int .u8 1, .int .u8 28, .int .u8 2, .int .u8 29, .int .u8 14, .int .u8 24, .int .u8 3, .int .u8 30, .int .u8 22, .int .u8 20, .int .u8 15, .int .u8 25, .int .u8 17, .int .u8 4, .int .u8 8, .int .u8 31, .int .u8 27, .int .u8 13, .int .u8 23, .int .u8 21, .int .u8 19, .int .u8 16, .int .u8 7, .int .u8 26, .int .u8 12, .int .u8 18, .int .u8 6, .int .u8 11, .int .u8 5, .int .u8 10, .int .u8 9] t frozen | o => o).modify 4 fun | .cells _ t frozen => .cells #[.int .u8 0, .int .u8 1, .int .u8 56, .int .u8 2, .int .u8 57, .int .u8 49, .int .u8 28, .int .u8 3, .int .u8 61, .int .u8 58, .int .u8 42, .int .u8 50, .int .u8 38, .int .u8 29, .int .u8 17, .int .u8 4, .int .u8 62, .int .u8 47, .int .u8 59, .int .u8 36, .int .u8 45, .int .u8 43, .int .u8 51, .int .u8 22, .int .u8 53, .int .u8 39, .int .u8 33, .int .u8 30, .int .u8 24, .int .u8 18, .int .u8 12, .int .u8 5, .int .u8 63, .int .u8 55, .int .u8 48, .int .u8 27, .int .u8 60, .int .u8 41, .int .u8 37, .int .u8 16, .int .u8 46, .int .u8 35, .int .u8 44, .int .u8 21, .int .u8 52, .int .u8 32, .int .u8 23, .int .u8 11, .int .u8 54, .int .u8 26, .int .u8 40, .int .u8 15, .int .u8 34, .int .u8 20, .int .u8 31, .int .u8 10, .int .u8 25, .int .u8 14, .int .u8 19, .int .u8 9, .int .u8 13, .int .u8 8, .int .u8 7, .int .u8 6] t frozen | o => o).modify 1 fun | .cells _ t frozen => .cells #[.int .u64 1, .int .u64 10, .int .u64 100, .int .u64 1000, .int .u64 10000, .int .u64 100000, .int .u64 1000000, .int .u64 10000000, .int .u64 100000000, .int .u64 1000000000, .int .u64 10000000000, .int .u64 100000000000, .int .u64 1000000000000, .int .u64 10000000000000, .int .u64 100000000000000, .int .u64 1000000000000000, .int .u64 10000000000000000, .int .u64 100000000000000000, .int .u64 1000000000000000000, .int .u64 10000000000000000000] t frozen | o => o).modify 0 fun | .cells _ t frozen => .cells #[.int .i64 31, .int .i64 28, .int .i64 31, .int .i64 30, .int .i64 31, .int .i64 30, .int .i64 31, .int .i64 31, .int .i64 30, .int .i64 31, .int .i64 30, .int .i64 31] t frozen | o => o) }
set_option maxRecDepth 100000 in
theorem laid_met (os : Os) : laidMet Tryd.prog Rows.civilTextsRow.laid ((laidWorld os).forCall (fun _ _ => 0) ⟨#[], #[.agg #[.int .i64 0, .int .i64 0, .int .i64 0, .int .i64 0, .int .i64 0, .int .i64 0], .string ByteArray.empty, .int .i64 0, .int .i64 0], []⟩).memory :=
  laidMet_of_run' 8 (by kernel_rfl) (by kernel_rfl)
set_option maxRecDepth 100000 in
theorem reads (os : Os) {H : Type} (enc : TypeId × Value → H) : ∃ places, DataW.whole enc Tryd.prog ((laidWorld os).forCall (fun _ _ => 0) ⟨#[], #[.agg #[.int .i64 0, .int .i64 0, .int .i64 0, .int .i64 0, .int .i64 0, .int .i64 0], .string ByteArray.empty, .int .i64 0, .int .i64 0], []⟩).memory Tryd.f7.params.toList Rows.civilTextsSpec.vars false (#[.agg #[.int .i64 0, .int .i64 0, .int .i64 0, .int .i64 0, .int .i64 0, .int .i64 0], .string ByteArray.empty, .int .i64 0, .int .i64 0] : Array Value).toList 8 = some ([.agg [.agg [.lit (.int .i64 0), .lit (.int .i64 0), .lit (.int .i64 0)], .lit (.int .i64 0), .lit (.int .i64 0), .lit (.int .i64 0)], .lit (.string []), .lit (.int .i64 0), .lit (.int .i64 0)], [], places) :=
  ⟨[], by kernel_rfl⟩
set_option maxRecDepth 100000 in
theorem lifted (os : Os) (started : os.Started) (H : Type) (enc : TypeId × Value → H) (F : Stop.Interp) :
    ReturnsInHanded {} Tryd.checked os 7 .any ((OpenSpec.ofChange Rows.civilTextsSpec).preRow enc Tryd.prog Tryd.f7 Rows.civilTextsRow.domain false Rows.civilTextsRow.laid) (((OpenSpec.ofChange Rows.civilTextsSpec).at F).post enc Tryd.prog Tryd.f7 false true false false) := by
  obtain ⟨places, hx⟩ := reads os enc
  refine returnsInHanded_of_row (C := Tryd.checked) (s := OpenSpec.ofChange Rows.civilTextsSpec) own started (by kernel_rfl) Tryd.func7
    (witness_row_at (enc := enc) (C := Tryd.checked) false (laidWorld os) #[.agg #[.int .i64 0, .int .i64 0, .int .i64 0, .int .i64 0, .int .i64 0, .int .i64 0], .string ByteArray.empty, .int .i64 0, .int .i64 0] rfl (by kernel_rfl) (by kernel_rfl) (by kernel_rfl)
      (OpenSpec.preRow_of_cond 8 hx (by kernel_rfl) (fun k hk => by cases hk) (by kernel_rfl) (laid_met os))) ?_
  intro W base args ds gs before hval hW _ _ _ hL _ _
  exact contract H enc W base args ds gs before hval hW hL
theorem said : Rows.CivilTextsSaid :=
  OpenClaim.holds_of_cond 7 Tryd.f7 rfl rfl rfl rfl rfl rfl rfl ⟨rfl, rfl, rfl, rfl, rfl⟩ rfl rfl rfl rfl rfl (by kernel_rfl) Tryd.func7 (by kernel_rfl)
    (of_decide_eq_true (by kernel_rfl)) (by unfold Func.isWrapper; first | (rw [if_pos (by decide +kernel)]; kernel_rfl) | (rw [if_neg (by decide +kernel)]; exact ⟨rfl, rfl⟩))
    (fun os started H enc _ F => by rw [OpenClaim.pre_eq_preRow]; exact lifted os started H enc F)
theorem plain (f : FuncId) (fn : Func) (hf : Tryd.pinned.checked.prog.funcNamed "kilowatt/kilowattlaw06.CivilTexts" = some f) (hfn : Tryd.pinned.checked.prog.funcs[f]? = some fn) :
    false = Tryd.pinned.checked.prog.looks [] ∧ ∀ (j : Nat) t, fn.params[j]? = some t → Tryd.pinned.checked.prog.wantsStandIn t = false := by
  obtain rfl : f = 7 := Option.some.inj ((show Tryd.prog.funcNamed "kilowatt/kilowattlaw06.CivilTexts" = some 7 by kernel_rfl).symm.trans hf) |>.symm
  obtain rfl : fn = Tryd.f7 := (Option.some.inj (Tryd.func7.symm.trans hfn)).symm
  refine ⟨by kernel_rfl, fun j t ht => ?_⟩
  rw [Tryd.params7] at ht
  have hm : t ∈ ([41, 9, 3, 3] : List Nat) := by simpa using Array.mem_of_getElem? ht
  have hall : (([41, 9, 3, 3] : List Nat).all fun u => !Tryd.prog.wantsStandIn u) = true := by kernel_rfl
  exact (show Tryd.prog.wantsStandIn t = false by simpa using List.all_eq_true.1 hall t hm)
/-- The statement: the card. -/
theorem proved : Rows.CivilTextsCardSaid :=
  Claim7.holds_tied_plain_at .later [] _ _ _ _ said (fun _ h => by cases h) (by kernel_rfl) (fun _ h => by cases h) civilTexts_row_tie rfl ⟨rfl, rfl⟩ (by kernel_rfl) rfl plain (by kernel_rfl)
#print axioms proved
end Go.Proofs.YtgeocjodkkkiiaaDoor.civilTexts
