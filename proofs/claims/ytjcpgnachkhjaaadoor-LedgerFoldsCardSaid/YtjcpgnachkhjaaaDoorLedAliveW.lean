/- alive, walked. -/
import Derived.Test.YtjcpgnachkhjaaaDoorLedAlive
namespace Go.Proofs.YtjcpgnachkhjaaaDoor
open Go.RowKit Go.Shelf Go.Sort
attribute [local go_sem] Oper.semAt_some
set_option linter.unusedVariables false
set_option linter.unusedSimpArgs false
set_option maxRecDepth 100000

theorem eql_l1 (w : World) : (binOp .eql 9 (strV li1) (strV li1)).run Tryd.prog w = .ok (.bool true) w := by kernel_rfl
theorem eql_l2 (w : World) : (binOp .eql 9 (strV li2) (strV li2)).run Tryd.prog w = .ok (.bool true) w := by kernel_rfl
theorem eqg_l1 (x y : Operand) (w : World) : (eqGuard .eql 9 x y (strV li1) (strV li1)).run Tryd.prog w = .ok () w := rfl
theorem eqg_l2 (x y : Operand) (w : World) : (eqGuard .eql 9 x y (strV li2) (strV li2)).run Tryd.prog w = .ok () w := rfl
theorem tot_eql (a b : Tot) (w : World) : (binOp .eql 32 (.agg a.arr) (.agg b.arr)).run Tryd.prog w = .ok (.bool (decide (a = b))) w := by
  rw [run_eql_struct, tot_in 9998 a b]; rfl
theorem tot_guard (w : World) (x y : Operand) (xs ys : Array Value) : (eqGuard .eql 32 x y (.agg xs) (.agg ys)).run Tryd.prog w = .ok () w := run_eqGuard_agg w .eql 32 x y xs ys (by kernel_rfl)
def tt632 : Array Value := (⟨6, 3, 2⟩ : Tot).arr
theorem build_632 (w : World) : (Instr.build 32 #[(0, .int .i64 6), (1, .int .i64 3), (2, .int .i64 2)]).run Tryd.prog w = .ok (.agg tt632) w := by kernel_rfl
theorem eql_632 (w : World) : (binOp .eql 32 (.agg tt632) (.agg tt632)).run Tryd.prog w = .ok (.bool true) w := by
  unfold tt632; rw [tot_eql]; rfl
theorem fold_two (w : World) (hT : WordsT w) : Calls Tryd.prog 20 #[.slice (some ⟨w.heap.size, 0, none⟩) 2 2] (w.alloc (.cells arr2 28)) fun e w' => (∃ g, e = .returned (.tuple #[.pointer (some ⟨g, 0, none⟩), .int .i64 2, .int .i64 0]) ∧ Held w' g 40 bk2.arr) ∧ Below w.heap.size w w' := by
  have ba : Below w.heap.size w (w.alloc (.cells arr2 28)) := (Below.refl _ _).alloc (Nat.le_refl _) _
  refine (fold_any [en1, en2] _ 2 2 _ (two_en w) (by omega) (hT.up ba)).mono ?_
  rintro e w' ⟨h | ⟨j, x, hj, hall, hne, _⟩, hb⟩
  · obtain ⟨_, g, he, _, hg⟩ := h
    exact ⟨⟨g, he, hg⟩, ba.trans (hb.mono (by simp))⟩
  · exfalso
    rcases (show j = 0 ∨ j = 1 by have := (List.getElem?_eq_some_iff.1 hj).1; simp at this; omega) with rfl | rfl
    · simp at hj; subst hj; exact hne bk2_ok1
    · simp at hj; subst hj; exact hne bk2_ok2
theorem bk2_book : bk2.ok 2 := by
  have := runB_ok [en1, en2] (fun e he => by
    simp only [List.mem_cons, List.not_mem_nil, or_false] at he
    rcases he with rfl | rfl
    · exact en1_ok
    · exact en2_ok)
  exact this
set_option maxHeartbeats 4000000 in
theorem alive_any (w : World) (hT : WordsT w) (hP : P10 w) : Calls Tryd.prog 8 #[] w fun e w' => e = .returned (.bool true) ∧ Below w.heap.size w w' := by
  have HF := Lib.hid (fold_two w hT)
  have HP := Lib.hid hP
  have HLN := Lib.hid (fun (V : World) (g : Nat) (hg : Held V g 40 bk2.arr) (hp : P10 V) => callsIn_wide.1 (lines_any 2 (by omega) bk2 bk2_book g V hg hp))
  have HTO := Lib.hid (fun (V : World) (g : Nat) (hg : Held V g 40 bk2.arr) => (total_any 2 bk2 bk2_book g 1 2 V hg))
  have htt : bk2.totI 1 2 = ⟨6, 3, 2⟩ := by
    unfold Bk.totI
    rw [if_pos (by decide)]
    exact bk2_tot
  rw [htt] at HTO
  rw [bk2_lines] at HLN
  have HTO2 : Hid (∀ (V : World) (g : Nat), Held V g 40 bk2.arr → Calls Tryd.prog 10 #[.pointer (some ⟨g, 0, none⟩), .int .i64 1, .int .i64 2] V fun e w' => e = .returned (.agg tt632) ∧ Below V.heap.size V w') := HTO
  have HB := Lib.hid build_632
  have HE := Lib.hid eql_632
  have HE1 := Lib.hid eql_l1
  have HE2 := Lib.hid eql_l2
  clear hT hP htt HTO
  generalize tt632 = T6 at HTO2 HB HE
  generalize bk2.arr = X2 at HF HLN HTO2
  have hc1 : strV li1 = .string ⟨([109, 101, 116, 101, 114, 32, 49, 32, 101, 110, 101, 114, 103, 121, 32, 54, 32, 99, 111, 115, 116, 32, 51, 32, 105, 110, 116, 101, 114, 118, 97, 108, 115, 32, 49, 32, 102, 108, 97, 103, 103, 101, 100, 32, 49, 32, 115, 117, 115, 112, 101, 99, 116, 115, 32, 48, 32, 114, 101, 112, 108, 97, 99, 101, 100, 32, 48, 32, 99, 111, 114, 114, 101, 99, 116, 101, 100, 32, 49] : List UInt8).toArray⟩ := rfl
  go_in
  go_wp2_with (first
    | (go_at_call 25; refine (two_any _).mono ?_; rintro e w1 ⟨rfl, rfl⟩)
    | (go_at_call 20; refine HF.out.mono ?_; rintro e w2 ⟨⟨g, rfl, hg⟩, hb2⟩)
    | (go_at_call 22; refine (HLN.out _ _ hg (tabIs_up HP.out hb2)).mono ?_; rintro e w3 ⟨⟨A, c, rfl, hs⟩, hb3⟩; have hg3 := hg.below hb3 hg.lt; have hb3w := hb2.trans (hb3.mono hb2.size); have hs0 := Lib.hid hs)
    | (go_at_call 10; refine (HTO2.out _ _ hg3).mono ?_; rintro e w4 ⟨rfl, hb4⟩; have hb4w := hb3w.trans (hb4.mono hb3w.size); obtain ⟨_, hat⟩ := hs0.out.up hb4; obtain ⟨ga, oa, hA, h0⟩ := hat 0 li1 rfl; obtain ⟨ga2, oa2, hA2, h1⟩ := hat 1 li2 rfl; rw [hA] at hA2; injection hA2 with hA2; injection hA2 with e1 e2; subst e1 e2; subst hA; clear hat hs; have h1' : w4.cell? ⟨ga, oa + 1, none⟩ = some (strV li2) := h1; have h0' : w4.cell? ⟨ga, oa, none⟩ = some (strV li1) := h0; clear h0 h1)
    | ((with_reducible refine wpList_build_at (dst := some 22) 32 _ _ _ (by kernel_rfl) (by kernel_rfl) (HB.out _) ?_); simp only [Act.put, List.setIfInBounds_toArray, List.set_cons_succ, List.set_cons_zero])
    | ((with_reducible refine wpList_bin_at (dst := some 23) .eql 32 32 (.tmp 21) (.tmp 22) (.agg T6) (.agg T6) _ (by kernel_rfl) (by kernel_rfl) (by kernel_rfl) (tot_guard _ _ _ _ _) (HE.out _) ?_); simp only [Act.put, List.setIfInBounds_toArray, List.set_cons_succ, List.set_cons_zero])
    | ((with_reducible refine wpList_bin_at (dst := some 34) .eql 9 9 (.tmp 33) _ (strV li1) (strV li1) _ (by kernel_rfl) (by kernel_rfl) (by kernel_rfl) (eqg_l1 _ _ _) (HE1.out _) ?_); simp only [Act.put, List.setIfInBounds_toArray, List.set_cons_succ, List.set_cons_zero])
    | ((with_reducible refine wpList_bin_at (dst := some 40) .eql 9 9 (.tmp 39) _ (strV li2) (strV li2) _ (by kernel_rfl) (by kernel_rfl) (by kernel_rfl) (eqg_l2 _ _ _) (HE2.out _) ?_); simp only [Act.put, List.setIfInBounds_toArray, List.set_cons_succ, List.set_cons_zero]))
  go_ret
  exact ⟨rfl, hb4w⟩
end Go.Proofs.YtjcpgnachkhjaaaDoor
