/- The chapter's examples: alive. -/
import Derived.Test.YtjcpgnachkhjaaaDoorLedLines
import Derived.Test.YtjcpgnachkhjaaaDoorLedSameW
namespace Go.Proofs.YtjcpgnachkhjaaaDoor
open Go.RowKit Go.Shelf Go.Sort
attribute [local go_sem] Oper.semAt_some
set_option linter.unusedVariables false
set_option linter.unusedSimpArgs false
set_option maxRecDepth 100000

theorem wpList_bslice_at {P : Program} {a : Act} {w : World} {Q : Exit → Act → World → Prop} {ops : Array Oper} {rest : List Oper} {dst : Option Tmp} {t2 : TypeId} {pos : String} {after : Array Edge} {guard : Option (Nat × Bool)} (ty : TypeId) (len : Nat) (ps : Array (Nat × Operand)) (vs : Array (Nat × Value)) (v : Value) (W : World) (hw : Region.wanted ⟨dst, .buildSlice ty len ps, t2, pos, after, guard⟩ (yielded ops a.tmps) = true) (hv : (ps.map fun (i, x) => (i, a.eval x)) = vs) (h : (Instr.buildSlice ty len vs).run P w = .ok v W)
    (hk : wpList P ops Q rest (a.put dst v) W) : wpList P ops Q (⟨dst, .buildSlice ty len ps, t2, pos, after, guard⟩ :: rest) a w :=
  wpList_val hw v (by
    subst hv
    unfold execOp
    simp only [Sem.run_bind, h, Result.andThen_ok, Sem.run_pure]) hk
def en1 : Ent := ⟨1, 1, 0, 10, 2, 0, 3, 2, 0, 0, List.replicate 32 0⟩
def en2 : Ent := ⟨4, 1, 0, -4, 2, 0, 0, 0, 0, 0, List.replicate 32 0⟩
def bk2 : Bk := runB [en1, en2]
theorem build_en1 (w : World) : (Instr.build 28 #[(0, .int .i64 1), (1, .int .i64 1), (4, .int .i64 2), (3, .int .i64 10), (6, .int .i64 3), (7, .int .i64 2)]).run Tryd.prog w = .ok (.agg en1.arr) w := by kernel_rfl
theorem build_en2 (w : World) : (Instr.build 28 #[(0, .int .i64 4), (1, .int .i64 1), (4, .int .i64 2), (3, .int .i64 (-4))]).run Tryd.prog w = .ok (.agg en2.arr) w := by kernel_rfl
def arr2 : Array Value := (en1.cells ++ (en2.cells ++ [])).toArray
theorem slice_en (w : World) : (Instr.buildSlice 22 2 #[(0, .agg en1.arr), (1, .agg en2.arr)]).run Tryd.prog w = .ok (.slice (some ⟨w.heap.size, 0, none⟩) 2 2) (w.alloc (.cells arr2 28)) := by kernel_rfl
theorem en_ok (k m a e b p c f : Int) (h1 : IntKind.i64.wrap k = k) (h2 : IntKind.i64.wrap m = m) (h3 : IntKind.i64.wrap a = a) (h4 : IntKind.i64.wrap e = e) (h5 : IntKind.i64.wrap b = b) (h6 : IntKind.i64.wrap p = p) (h7 : IntKind.i64.wrap c = c) (h8 : IntKind.i64.wrap f = f) : (⟨k, m, a, e, b, p, c, f, 0, 0, List.replicate 32 0⟩ : Ent).ok :=
  ⟨h1, h2, h3, h4, h5, h6, h7, h8, rfl, rfl, List.length_replicate, fun x hx => by have := List.eq_of_mem_replicate hx; omega⟩
theorem en1_ok : en1.ok := en_ok 1 1 0 10 2 0 3 2 rfl rfl rfl rfl rfl rfl rfl rfl
theorem en2_ok : en2.ok := en_ok 4 1 0 (-4) 2 0 0 0 rfl rfl rfl rfl rfl rfl rfl rfl
theorem two_en (w : World) : EnI (w.alloc (.cells arr2 28)) (some ⟨w.heap.size, 0, none⟩) 2 [en1, en2] := by
  have hH : Held (w.alloc (.cells arr2 28)) w.heap.size 28 arr2 := Held.new w _ _
  refine ⟨rfl, fun e he => ?_, fun i e hi => ⟨_, _, rfl, ?_⟩⟩
  · simp only [List.mem_cons, List.not_mem_nil, or_false] at he
    rcases he with rfl | rfl
    · exact en1_ok
    · exact en2_ok
  · rcases (show i = 0 ∨ i = 1 by have := (List.getElem?_eq_some_iff.1 hi).1; simp at this; omega) with rfl | rfl
    · simp at hi; subst hi
      exact held_range (A := []) (vs := en1.cells) (C := en2.cells ++ []) hH
    · simp at hi; subst hi
      exact held_range (A := en1.cells) (vs := en2.cells) (C := []) hH
theorem two_any (w : World) : Calls Tryd.prog 25 #[] w fun e w' => e = .returned (.slice (some ⟨w.heap.size, 0, none⟩) 2 2) ∧ w' = w.alloc (.cells arr2 28) := by
  have h1 := build_en1
  have h2 := build_en2
  have h3 := slice_en
  have H1 := Lib.hid h1
  have H2 := Lib.hid h2
  have H3 := Lib.hid h3
  clear h1 h2 h3
  generalize en1.arr = X1 at H1 H3
  generalize en2.arr = X2 at H2 H3
  go_in
  go_wp2_with (first
    | ((with_reducible refine wpList_build_at (dst := some 1) 28 _ _ _ (by kernel_rfl) (by kernel_rfl) (H1.out _) ?_); simp only [Act.put, List.setIfInBounds_toArray, List.set_cons_succ, List.set_cons_zero])
    | ((with_reducible refine wpList_build_at (dst := some 2) 28 _ _ _ (by kernel_rfl) (by kernel_rfl) (H2.out _) ?_); simp only [Act.put, List.setIfInBounds_toArray, List.set_cons_succ, List.set_cons_zero])
    | ((with_reducible refine wpList_bslice_at (dst := some 3) 22 2 _ _ _ _ (by kernel_rfl) (by kernel_rfl) (H3.out _) ?_); simp only [Act.put, List.setIfInBounds_toArray, List.set_cons_succ, List.set_cons_zero]))
  go_ret
  exact ⟨rfl, rfl⟩
def li1 : List UInt8 := [109, 101, 116, 101, 114, 32, 49, 32, 101, 110, 101, 114, 103, 121, 32, 54, 32, 99, 111, 115, 116, 32, 51, 32, 105, 110, 116, 101, 114, 118, 97, 108, 115, 32, 49, 32, 102, 108, 97, 103, 103, 101, 100, 32, 49, 32, 115, 117, 115, 112, 101, 99, 116, 115, 32, 48, 32, 114, 101, 112, 108, 97, 99, 101, 100, 32, 48, 32, 99, 111, 114, 114, 101, 99, 116, 101, 100, 32, 49]
def li2 : List UInt8 := [98, 97, 110, 100, 32, 50, 32, 101, 110, 101, 114, 103, 121, 32, 54, 32, 99, 111, 115, 116, 32, 51, 32, 109, 97, 110, 121, 32, 50]
theorem bk2_met : metN bk2 64 = [1] := by decide +kernel
theorem bk2_sum : sumL 1 (bk2.sumAt 1) = [1, 6, 3, 1, 1, 0, 0, 1] := by decide +kernel
theorem bk2_ban : bandN bk2 1 8 = [2] := by decide +kernel
theorem bk2_tot : bk2.totAt 1 2 = ⟨6, 3, 2⟩ := by decide +kernel
theorem bk2_ok1 : (addP Bk.zero en1).2 = 0 := by decide +kernel
theorem bk2_ok2 : (addP (runB [en1]) en2).2 = 0 := by decide +kernel
theorem ito (n : Nat) (h : n < 10) : Lib.itoa (n : Int) = [UInt8.ofNat (48 + n)] := by rw [Lib.itoa_nonneg, Lib.decDigits_one h]
theorem bk2_lines : linesL bk2 = [li1, li2] := by
  have i0 : Lib.itoa 0 = [48] := ito 0 (by omega)
  have i1 : Lib.itoa 1 = [49] := ito 1 (by omega)
  have i2 : Lib.itoa 2 = [50] := ito 2 (by omega)
  have i3 : Lib.itoa 3 = [51] := ito 3 (by omega)
  have i6 : Lib.itoa 6 = [54] := ito 6 (by omega)
  have h1 : wordsL [1, 6, 3, 1, 1, 0, 0, 1] = li1 := by
    unfold wordsL partsN partL
    simp only [List.length_cons, List.length_nil]
    rw [show (List.range (0 + 1 + 1 + 1 + 1 + 1 + 1 + 1 + 1)) = [0, 1, 2, 3, 4, 5, 6, 7] from rfl]
    simp only [List.map_cons, List.map_nil, List.getD_cons_zero, List.getD_cons_succ, i0, i1, i3, i6]
    decide +kernel
  have h2 : bandLine bk2 1 2 = li2 := by
    unfold bandLine
    rw [show ((2 : Fin 8).1) = 2 from rfl, bk2_tot]
    have h3 : wordsL [((2 : Nat) : Int), 6, 3] = [109, 101, 116, 101, 114, 32, 50, 32, 101, 110, 101, 114, 103, 121, 32, 54, 32, 99, 111, 115, 116, 32, 51] := by
      unfold wordsL partsN partL
      simp only [List.length_cons, List.length_nil]
      rw [show (List.range (0 + 1 + 1 + 1)) = [0, 1, 2] from rfl]
      simp only [List.map_cons, List.map_nil, List.getD_cons_zero, List.getD_cons_succ]
      rw [show (((2 : Nat) : Int)) = 2 from rfl, i2, i3, i6]
      decide +kernel
    dsimp only
    rw [h3, i2]
    decide +kernel
  unfold linesL
  rw [bk2_met]
  simp only [List.flatMap_cons, List.flatMap_nil, List.append_nil]
  unfold meterLines
  rw [bk2_sum, bk2_ban, h1]
  simp only [List.map_cons, List.map_nil, h2]
end Go.Proofs.YtjcpgnachkhjaaaDoor
