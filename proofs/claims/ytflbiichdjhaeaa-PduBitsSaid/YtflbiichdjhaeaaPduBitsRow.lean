/- bits in bytes and back, an exception's bytes, and whether two requests or replies are the same, are the document's: for every argument as the row has it. -/
import Derived.Test.YtflbiichdjhaeaaRows
import Derived.Test.YtflbiichdjhaeaaMem
import Derived.Test.YtflbiichdjhaeaaTab
import Derived.Test.YtflbiichdjhaeaaOpenB
import Derived.Test.YtflbiichdjhaeaaPduBitsLaw
import Derived.WalkKit
import Derived.ProofKit
import Derived.OpenShut
import Derived.ShutString
import Derived.ChangeOld
import Derived.Below
import Derived.ChangeArms
namespace Go.Proofs.Ytflbiichdjhaeaa.pduBits
open Go.ChangeShapes Go.WideShapes Go.ChangeAt Go.RowKit
open Go.ChangeMaps (open_string shut_string)
set_option linter.unusedVariables false

theorem own : ownKnob Try.prog.godebug = none := by kernel_rfl
theorem laidOut : laidOutB Try.prog = true := by kernel_rfl

theorem list_6 {α : Type} {l : List α} (h : l.length = 6) : ∃ c0 c1 c2 c3 c4 c5, l = [c0, c1, c2, c3, c4, c5] := by
  match l, h with
  | [c0, c1, c2, c3, c4, c5], _ => exact ⟨c0, c1, c2, c3, c4, c5, rfl⟩
theorem walk (a0 : Option Addr) (n0 c0 : Nat) (x0 : List Bool) (a1 : Option Addr) (n1 c1 : Nat) (x1 : List Int) (a2 : Int) (a3 : Int) (a4 : Int) (a5_1 : Int) (a5_2 : Int) (a5_3 : Int) (a5_4 : Int) (a5_5 : Option Addr) (n5_5 c5_5 : Nat) (x5_5 : List Bool) (a5_6 : Option Addr) (n5_6 c5_6 : Nat) (x5_6 : List Int) (a6_1 : Int) (a6_2 : Int) (a6_3 : Int) (a6_4 : Int) (a6_5 : Option Addr) (n6_5 c6_5 : Nat) (x6_5 : List Bool) (a6_6 : Option Addr) (n6_6 c6_6 : Nat) (x6_6 : List Int) (w : World)   (s0 : SlB w w.heap.size a0 n0 c0 x0) (s1 : SlI w w.heap.size .u8 a1 n1 c1 x1) (b1 : ∀ x ∈ x1, (Lit.int .u8 x).wf = true) (w2 : (Lit.int .i64 a2).wf = true) (w3 : (Lit.int .i64 a3).wf = true) (w4 : (Lit.int .i64 a4).wf = true) (w5_1 : (Lit.int .i64 a5_1).wf = true) (w5_2 : (Lit.int .i64 a5_2).wf = true) (w5_3 : (Lit.int .i64 a5_3).wf = true) (w5_4 : (Lit.int .i64 a5_4).wf = true) (s5_5 : SlB w w.heap.size a5_5 n5_5 c5_5 x5_5) (s5_6 : SlI w w.heap.size .u16 a5_6 n5_6 c5_6 x5_6) (b5_6 : ∀ x ∈ x5_6, (Lit.int .u16 x).wf = true) (w6_1 : (Lit.int .i64 a6_1).wf = true) (w6_2 : (Lit.int .i64 a6_2).wf = true) (w6_3 : (Lit.int .i64 a6_3).wf = true) (w6_4 : (Lit.int .i64 a6_4).wf = true) (s6_5 : SlB w w.heap.size a6_5 n6_5 c6_5 x6_5) (s6_6 : SlI w w.heap.size .u16 a6_6 n6_6 c6_6 x6_6) (b6_6 : ∀ x ∈ x6_6, (Lit.int .u16 x).wf = true) :
    Calls Try.prog 3 #[.slice a0 n0 c0, .slice a1 n1 c1, .int .i64 a2, .int .i64 a3, .int .i64 a4, .agg #[.int .i64 a5_1, .int .i64 a5_2, .int .i64 a5_3, .int .i64 a5_4, .slice a5_5 n5_5 c5_5, .slice a5_6 n5_6 c5_6], .agg #[.int .i64 a6_1, .int .i64 a6_2, .int .i64 a6_3, .int .i64 a6_4, .slice a6_5 n6_5 c6_5, .slice a6_6 n6_6 c6_6]] w fun e w' => e = .returned (.bool true) ∧ Below w.heap.size w w' := by
  exact law_bits a0 n0 c0 x0 a1 n1 c1 x1 a2 a3 a4 ⟨a5_1, a5_2, a5_3, a5_4, x5_5, x5_6⟩ ⟨a6_1, a6_2, a6_3, a6_4, x6_5, x6_6⟩ a5_5 n5_5 c5_5 a5_6 n5_6 c5_6 a6_5 n6_5 c6_5 a6_6 n6_6 c6_6 w s0 s1 (fun x hx => by have := bounds_u8 (b1 x hx); omega) (by have := bounds_i64 w2; omega) s5_5 s5_6 s6_5 s6_6

set_option maxHeartbeats 4000000 in
set_option maxRecDepth 100000 in
theorem lifted (os : Os) (started : os.Started) (H : Type) (enc : TypeId × Value → H) :
    ReturnsInHanded {} Try.checked os 3 .any (Rows.pduBitsSpec.pre6 enc Try.prog Try.f3 Rows.pduBitsRow.domain false) (Rows.pduBitsSpec.post enc Try.prog Try.f3 false true false false) := by
  refine returnsInHanded_of_change (C := Try.checked) own started (by kernel_rfl) Try.func3
    (ChangeSpec.witness6 (enc := enc) (C := Try.checked) false ⟨#[], #[.slice none 0 0, .slice none 0 0, .int .i64 0, .int .i64 0, .int .i64 0, .agg #[.int .i64 0, .int .i64 0, .int .i64 0, .int .i64 0, .slice none 0 0, .slice none 0 0], .agg #[.int .i64 0, .int .i64 0, .int .i64 0, .int .i64 0, .slice none 0 0, .slice none 0 0]], []⟩ 8 (by kernel_rfl) (by kernel_rfl) (by kernel_rfl) (by kernel_rfl)) ?_
  intro W base args ds gs before hval0 hW hcnd _
  have hval : ∀ (j : Nat) t v, Try.f3.params[j]? = some t → args[j]? = some v → Value.okWide Try.prog W .any base t v := hval0
  have hW' := hW
  obtain ⟨p, q, hA0, hV, rfl, hfz, hnd⟩ := hW
  have hA : DataW.TrodAll enc Try.prog W 0 (fun _ => true) true Try.f3.params.toList args.toList ds p := hA0
  rw [Try.params3] at hA hval
  obtain ⟨v0, vs0, d0, ds0, p0, q0, hargs, rfl, rfl, h0, r0⟩ := trodAll_cons hA
  obtain ⟨v1, vs1, d1, ds1, p1, q1, rfl, rfl, rfl, h1, r1⟩ := trodAll_cons r0
  obtain ⟨v2, vs2, d2, ds2, p2, q2, rfl, rfl, rfl, h2, r2⟩ := trodAll_cons r1
  obtain ⟨v3, vs3, d3, ds3, p3, q3, rfl, rfl, rfl, h3, r3⟩ := trodAll_cons r2
  obtain ⟨v4, vs4, d4, ds4, p4, q4, rfl, rfl, rfl, h4, r4⟩ := trodAll_cons r3
  obtain ⟨v5, vs5, d5, ds5, p5, q5, rfl, rfl, rfl, h5, r5⟩ := trodAll_cons r4
  obtain ⟨v6, vs6, d6, ds6, p6, q6, rfl, rfl, rfl, h6, r6⟩ := trodAll_cons r5
  obtain ⟨rfl, rfl, rfl⟩ := trodAll_nil r6
  obtain rfl : args = #[v0, v1, v2, v3, v4, v5, v6] := by cases args; simp_all
  obtain ⟨rfl, rfl⟩ := trodVars_none hV
  obtain ⟨a0, n0, c0, rfl⟩ := okWide_slice Try.underlying22 (hval 0 22 v0 rfl rfl)
  have k0 := h0
  have lt0 : ∀ x ∈ p0, x.block < W.heap.size := by obtain ⟨m, hm⟩ := k0; exact DataW.trod_lt m _ _ _ hm
  obtain ⟨f0', hf0'⟩ := h0
  obtain ⟨x0, s0⟩ : ∃ xs, SlB W W.heap.size a0 n0 c0 xs := by
    obtain ⟨a, n, c, xs, e, hs⟩ := open_bools Try.underlying22 Try.underlying4 (by kernel_rfl) hf0'
    cases e
    exact ⟨xs, hs⟩
  obtain ⟨a1, n1, c1, rfl⟩ := okWide_slice Try.underlying23 (hval 1 23 v1 rfl rfl)
  have k1 := h1
  have lt1 : ∀ x ∈ p1, x.block < W.heap.size := by obtain ⟨m, hm⟩ := k1; exact DataW.trod_lt m _ _ _ hm
  obtain ⟨f1', hf1'⟩ := h1
  obtain ⟨x1, s1, b1⟩ : ∃ xs, SlI W W.heap.size .u8 a1 n1 c1 xs ∧ ∀ x ∈ xs, (Lit.int .u8 x).wf = true := by
    rcases open_ints Try.underlying23 Try.underlying5 (by kernel_rfl) hf1' with ⟨hcs, _⟩ | ⟨x, l, c, zs, hcs, _, hl, hm, hz, _, hcell, hwz⟩
    · simp [Value.cells] at hcs
      obtain ⟨rfl, rfl, rfl⟩ := hcs
      exact ⟨[], SlI.nil _ _ _, by simp⟩
    · simp [Value.cells] at hcs
      obtain ⟨rfl, rfl, rfl⟩ := hcs
      exact ⟨zs.take _, SlI.of_row hl hm (by simpa using hz) hcell, fun y hy => hwz y (List.mem_of_mem_take hy)⟩
  obtain ⟨a2, rfl, rfl, rfl, w2⟩ := open_int Try.underlying3 (hval 2 3 v2 rfl rfl) h2
  obtain ⟨a3, rfl, rfl, rfl, w3⟩ := open_int Try.underlying3 (hval 3 3 v3 rfl rfl) h3
  obtain ⟨a4, rfl, rfl, rfl, w4⟩ := open_int Try.underlying3 (hval 4 3 v4 rfl rfl) h4
  obtain ⟨⟨cc5⟩, rfl, sz5⟩ := okWide_struct Try.underlying26 (hval 5 26 v5 rfl rfl)
  have k5 := h5
  have lt5 : ∀ x ∈ p5, x.block < W.heap.size := by obtain ⟨m, hm⟩ := k5; exact DataW.trod_lt m _ _ _ hm
  obtain ⟨q5_0, q5_1, q5_2, q5_3, q5_4, q5_5, rfl⟩ := list_6 (show cc5.length = 6 from sz5.trans (by kernel_rfl))
  obtain ⟨f5', hf5'⟩ := h5
  simp only [Value.cells] at hf5'
  obtain ⟨xs1', m1', _, _, _, len1', at1'⟩ := DataW.trod_struct Try.underlying26 hf5'
  have g2' : DataW.trod enc Try.prog W 0 (fun _ => true) true m1' 3 (([q5_0, q5_1, q5_2, q5_3, q5_4, q5_5].drop 0).take (Try.prog.cellsOf 3)) = xs1'[0]? := at1' 0 _ rfl
  rw [show xs1'[0]? = some (xs1'[0]'(by rw [len1']; decide)) from List.getElem?_eq_getElem _, show Try.prog.cellsOf 3 = 1 by kernel_rfl] at g2'
  simp only [List.drop_zero, List.take_succ_cons, List.take_zero] at g2'
  obtain ⟨a5_1, e2', _, w5_1⟩ := DataW.trod_int Try.underlying3 g2'
  obtain rfl : q5_0 = .int .i64 a5_1 := by simpa using e2'
  have g3' : DataW.trod enc Try.prog W 0 (fun _ => true) true m1' 3 (([.int .i64 a5_1, q5_1, q5_2, q5_3, q5_4, q5_5].drop 1).take (Try.prog.cellsOf 3)) = xs1'[1]? := at1' 1 _ rfl
  rw [show xs1'[1]? = some (xs1'[1]'(by rw [len1']; decide)) from List.getElem?_eq_getElem _, show Try.prog.cellsOf 3 = 1 by kernel_rfl] at g3'
  simp only [List.drop_zero, List.drop_succ_cons, List.take_succ_cons, List.take_zero] at g3'
  obtain ⟨a5_2, e3', _, w5_2⟩ := DataW.trod_int Try.underlying3 g3'
  obtain rfl : q5_1 = .int .i64 a5_2 := by simpa using e3'
  have g4' : DataW.trod enc Try.prog W 0 (fun _ => true) true m1' 3 (([.int .i64 a5_1, .int .i64 a5_2, q5_2, q5_3, q5_4, q5_5].drop 2).take (Try.prog.cellsOf 3)) = xs1'[2]? := at1' 2 _ rfl
  rw [show xs1'[2]? = some (xs1'[2]'(by rw [len1']; decide)) from List.getElem?_eq_getElem _, show Try.prog.cellsOf 3 = 1 by kernel_rfl] at g4'
  simp only [List.drop_zero, List.drop_succ_cons, List.take_succ_cons, List.take_zero] at g4'
  obtain ⟨a5_3, e4', _, w5_3⟩ := DataW.trod_int Try.underlying3 g4'
  obtain rfl : q5_2 = .int .i64 a5_3 := by simpa using e4'
  have g5' : DataW.trod enc Try.prog W 0 (fun _ => true) true m1' 3 (([.int .i64 a5_1, .int .i64 a5_2, .int .i64 a5_3, q5_3, q5_4, q5_5].drop 3).take (Try.prog.cellsOf 3)) = xs1'[3]? := at1' 3 _ rfl
  rw [show xs1'[3]? = some (xs1'[3]'(by rw [len1']; decide)) from List.getElem?_eq_getElem _, show Try.prog.cellsOf 3 = 1 by kernel_rfl] at g5'
  simp only [List.drop_zero, List.drop_succ_cons, List.take_succ_cons, List.take_zero] at g5'
  obtain ⟨a5_4, e5', _, w5_4⟩ := DataW.trod_int Try.underlying3 g5'
  obtain rfl : q5_3 = .int .i64 a5_4 := by simpa using e5'
  have g6' : DataW.trod enc Try.prog W 0 (fun _ => true) true m1' 22 (([.int .i64 a5_1, .int .i64 a5_2, .int .i64 a5_3, .int .i64 a5_4, q5_4, q5_5].drop 4).take (Try.prog.cellsOf 22)) = xs1'[4]? := at1' 4 _ rfl
  rw [show xs1'[4]? = some (xs1'[4]'(by rw [len1']; decide)) from List.getElem?_eq_getElem _, show Try.prog.cellsOf 22 = 1 by kernel_rfl] at g6'
  simp only [List.drop_zero, List.drop_succ_cons, List.take_succ_cons, List.take_zero] at g6'
  obtain ⟨a5_5, n5_5, c5_5, x5_5, e6', s5_5⟩ : ∃ a n c xs, q5_4 = .slice a n c ∧ SlB W W.heap.size a n c xs := open_bools Try.underlying22 Try.underlying4 (by kernel_rfl) g6'
  subst e6'
  have g7' : DataW.trod enc Try.prog W 0 (fun _ => true) true m1' 24 (([.int .i64 a5_1, .int .i64 a5_2, .int .i64 a5_3, .int .i64 a5_4, .slice a5_5 n5_5 c5_5, q5_5].drop 5).take (Try.prog.cellsOf 24)) = xs1'[5]? := at1' 5 _ rfl
  rw [show xs1'[5]? = some (xs1'[5]'(by rw [len1']; decide)) from List.getElem?_eq_getElem _, show Try.prog.cellsOf 24 = 1 by kernel_rfl] at g7'
  simp only [List.drop_zero, List.drop_succ_cons, List.take_succ_cons, List.take_zero] at g7'
  obtain ⟨a5_6, n5_6, c5_6, x5_6, e7', s5_6, b5_6⟩ : ∃ a n c xs, q5_5 = .slice a n c ∧ SlI W W.heap.size .u16 a n c xs ∧ ∀ x ∈ xs, (Lit.int .u16 x).wf = true := by
    rcases open_ints Try.underlying24 Try.underlying42 (by kernel_rfl) g7' with ⟨hcs, _⟩ | ⟨x, l, c, zs, hcs, _, hl, hm, hz, _, hcell, hwz⟩
    · exact ⟨none, 0, 0, [], by simpa using hcs, SlI.nil _ _ _, by simp⟩
    · exact ⟨some x, l, c, zs.take _, by simpa using hcs, SlI.of_row hl hm (by simpa using hz) hcell, fun y hy => hwz y (List.mem_of_mem_take hy)⟩
  subst e7'
  obtain ⟨⟨cc6⟩, rfl, sz6⟩ := okWide_struct Try.underlying26 (hval 6 26 v6 rfl rfl)
  have k6 := h6
  have lt6 : ∀ x ∈ p6, x.block < W.heap.size := by obtain ⟨m, hm⟩ := k6; exact DataW.trod_lt m _ _ _ hm
  obtain ⟨q6_0, q6_1, q6_2, q6_3, q6_4, q6_5, rfl⟩ := list_6 (show cc6.length = 6 from sz6.trans (by kernel_rfl))
  obtain ⟨f6', hf6'⟩ := h6
  simp only [Value.cells] at hf6'
  obtain ⟨xs8', m8', _, _, _, len8', at8'⟩ := DataW.trod_struct Try.underlying26 hf6'
  have g9' : DataW.trod enc Try.prog W 0 (fun _ => true) true m8' 3 (([q6_0, q6_1, q6_2, q6_3, q6_4, q6_5].drop 0).take (Try.prog.cellsOf 3)) = xs8'[0]? := at8' 0 _ rfl
  rw [show xs8'[0]? = some (xs8'[0]'(by rw [len8']; decide)) from List.getElem?_eq_getElem _, show Try.prog.cellsOf 3 = 1 by kernel_rfl] at g9'
  simp only [List.drop_zero, List.take_succ_cons, List.take_zero] at g9'
  obtain ⟨a6_1, e9', _, w6_1⟩ := DataW.trod_int Try.underlying3 g9'
  obtain rfl : q6_0 = .int .i64 a6_1 := by simpa using e9'
  have g10' : DataW.trod enc Try.prog W 0 (fun _ => true) true m8' 3 (([.int .i64 a6_1, q6_1, q6_2, q6_3, q6_4, q6_5].drop 1).take (Try.prog.cellsOf 3)) = xs8'[1]? := at8' 1 _ rfl
  rw [show xs8'[1]? = some (xs8'[1]'(by rw [len8']; decide)) from List.getElem?_eq_getElem _, show Try.prog.cellsOf 3 = 1 by kernel_rfl] at g10'
  simp only [List.drop_zero, List.drop_succ_cons, List.take_succ_cons, List.take_zero] at g10'
  obtain ⟨a6_2, e10', _, w6_2⟩ := DataW.trod_int Try.underlying3 g10'
  obtain rfl : q6_1 = .int .i64 a6_2 := by simpa using e10'
  have g11' : DataW.trod enc Try.prog W 0 (fun _ => true) true m8' 3 (([.int .i64 a6_1, .int .i64 a6_2, q6_2, q6_3, q6_4, q6_5].drop 2).take (Try.prog.cellsOf 3)) = xs8'[2]? := at8' 2 _ rfl
  rw [show xs8'[2]? = some (xs8'[2]'(by rw [len8']; decide)) from List.getElem?_eq_getElem _, show Try.prog.cellsOf 3 = 1 by kernel_rfl] at g11'
  simp only [List.drop_zero, List.drop_succ_cons, List.take_succ_cons, List.take_zero] at g11'
  obtain ⟨a6_3, e11', _, w6_3⟩ := DataW.trod_int Try.underlying3 g11'
  obtain rfl : q6_2 = .int .i64 a6_3 := by simpa using e11'
  have g12' : DataW.trod enc Try.prog W 0 (fun _ => true) true m8' 3 (([.int .i64 a6_1, .int .i64 a6_2, .int .i64 a6_3, q6_3, q6_4, q6_5].drop 3).take (Try.prog.cellsOf 3)) = xs8'[3]? := at8' 3 _ rfl
  rw [show xs8'[3]? = some (xs8'[3]'(by rw [len8']; decide)) from List.getElem?_eq_getElem _, show Try.prog.cellsOf 3 = 1 by kernel_rfl] at g12'
  simp only [List.drop_zero, List.drop_succ_cons, List.take_succ_cons, List.take_zero] at g12'
  obtain ⟨a6_4, e12', _, w6_4⟩ := DataW.trod_int Try.underlying3 g12'
  obtain rfl : q6_3 = .int .i64 a6_4 := by simpa using e12'
  have g13' : DataW.trod enc Try.prog W 0 (fun _ => true) true m8' 22 (([.int .i64 a6_1, .int .i64 a6_2, .int .i64 a6_3, .int .i64 a6_4, q6_4, q6_5].drop 4).take (Try.prog.cellsOf 22)) = xs8'[4]? := at8' 4 _ rfl
  rw [show xs8'[4]? = some (xs8'[4]'(by rw [len8']; decide)) from List.getElem?_eq_getElem _, show Try.prog.cellsOf 22 = 1 by kernel_rfl] at g13'
  simp only [List.drop_zero, List.drop_succ_cons, List.take_succ_cons, List.take_zero] at g13'
  obtain ⟨a6_5, n6_5, c6_5, x6_5, e13', s6_5⟩ : ∃ a n c xs, q6_4 = .slice a n c ∧ SlB W W.heap.size a n c xs := open_bools Try.underlying22 Try.underlying4 (by kernel_rfl) g13'
  subst e13'
  have g14' : DataW.trod enc Try.prog W 0 (fun _ => true) true m8' 24 (([.int .i64 a6_1, .int .i64 a6_2, .int .i64 a6_3, .int .i64 a6_4, .slice a6_5 n6_5 c6_5, q6_5].drop 5).take (Try.prog.cellsOf 24)) = xs8'[5]? := at8' 5 _ rfl
  rw [show xs8'[5]? = some (xs8'[5]'(by rw [len8']; decide)) from List.getElem?_eq_getElem _, show Try.prog.cellsOf 24 = 1 by kernel_rfl] at g14'
  simp only [List.drop_zero, List.drop_succ_cons, List.take_succ_cons, List.take_zero] at g14'
  obtain ⟨a6_6, n6_6, c6_6, x6_6, e14', s6_6, b6_6⟩ : ∃ a n c xs, q6_5 = .slice a n c ∧ SlI W W.heap.size .u16 a n c xs ∧ ∀ x ∈ xs, (Lit.int .u16 x).wf = true := by
    rcases open_ints Try.underlying24 Try.underlying42 (by kernel_rfl) g14' with ⟨hcs, _⟩ | ⟨x, l, c, zs, hcs, _, hl, hm, hz, _, hcell, hwz⟩
    · exact ⟨none, 0, 0, [], by simpa using hcs, SlI.nil _ _ _, by simp⟩
    · exact ⟨some x, l, c, zs.take _, by simpa using hcs, SlI.of_row hl hm (by simpa using hz) hcell, fun y hy => hwz y (List.mem_of_mem_take hy)⟩
  subst e14'
  clear hA0 hval0
  refine (walk a0 n0 c0 x0 a1 n1 c1 x1 a2 a3 a4 a5_1 a5_2 a5_3 a5_4 a5_5 n5_5 c5_5 x5_5 a5_6 n5_6 c5_6 x5_6 a6_1 a6_2 a6_3 a6_4 a6_5 n6_5 c6_5 x6_5 a6_6 n6_6 c6_6 x6_6 W  s0 s1 b1 w2 w3 w4 w5_1 w5_2 w5_3 w5_4 s5_5 s5_6 b5_6 w6_1 w6_2 w6_3 w6_4 s6_5 s6_6 b6_6).mono fun e W' ⟨he, bel⟩ => ?_
  subst he
  exact ⟨_, rfl, _, _, _, [], _, [], hW', trodAll_mk1 (shut_bool Try.underlying4 _), (trodAll_cons_mk (Below.trod laidOut (by kernel_rfl) (of_decide_eq_true (by kernel_rfl)) k0 bel lt0) (trodAll_cons_mk (Below.trod laidOut (by kernel_rfl) (of_decide_eq_true (by kernel_rfl)) k1 bel lt1) (trodAll_cons_mk (shut_int Try.underlying3 w2) (trodAll_cons_mk (shut_int Try.underlying3 w3) (trodAll_cons_mk (shut_int Try.underlying3 w4) (trodAll_cons_mk (Below.trod laidOut (by kernel_rfl) (of_decide_eq_true (by kernel_rfl)) k5 bel lt5) (trodAll_cons_mk (Below.trod laidOut (by kernel_rfl) (of_decide_eq_true (by kernel_rfl)) k6 bel lt6) trodAll_mk0))))))), rfl, bel.frame _, fun h => by cases h⟩

theorem over : Rows.pduBitsRow.holds Try.pinned (OpenSpec.ofChange Rows.pduBitsSpec) :=
  OpenClaim.holds_of_wide 3 Try.f3 rfl rfl rfl rfl rfl rfl rfl ⟨rfl, rfl, rfl, rfl, rfl⟩ rfl rfl rfl rfl rfl (by kernel_rfl) Try.func3 (by kernel_rfl)
    (of_decide_eq_true (by kernel_rfl)) (by unfold Func.isWrapper; first | (rw [if_pos (by decide +kernel)]; kernel_rfl) | (rw [if_neg (by decide +kernel)]; exact ⟨rfl, rfl⟩))
    (fun os started H enc _ => lifted os started H enc)

/-- The statement. -/
theorem proved : Rows.PduBitsSaid := over
#print axioms proved
end Go.Proofs.Ytflbiichdjhaeaa.pduBits
