/- LedgerNames, walked. -/
import Derived.Test.YtjcpgnachkhjaaaDoorLedAliveW
import Derived.Test.YtjcpgnachkhjaaaDoorLedSameW
namespace Go.Proofs.YtjcpgnachkhjaaaDoor
open Go.RowKit Go.Shelf Go.Sort
attribute [local go_sem] Oper.semAt_some
set_option linter.unusedVariables false
set_option linter.unusedSimpArgs false
set_option maxRecDepth 100000

section
variable {P : Program} {a : Act} {w w' : World} {Q : Exit → Act → World → Prop} {ops : Array Oper} {rest : List Oper}
variable {dst : Option Tmp} {t2 : TypeId} {pos : String} {after : Array Edge} {guard : Option (Nat × Bool)}
theorem exec_field {ρ : Operand → Value} (ty : TypeId) (x : Operand) (i : Nat) (vx v : Value) (hx : ρ x = vx) (h : (Instr.field ty vx i).run P w = .ok v w) : (execOp ρ ⟨dst, .field ty x i, t2, pos, after, guard⟩).run P w = .ok (.value v) w := by
  subst hx
  unfold execOp
  simp only [Sem.run_bind, h, Result.andThen_ok, Sem.run_pure]
theorem wpList_field_at (ty : TypeId) (x : Operand) (i : Nat) (vx v : Value) (hw : Region.wanted ⟨dst, .field ty x i, t2, pos, after, guard⟩ (yielded ops a.tmps) = true) (hx : a.eval x = vx) (h : (Instr.field ty vx i).run P w = .ok v w)
    (hk : wpList P ops Q rest (a.put dst v) w) : wpList P ops Q (⟨dst, .field ty x i, t2, pos, after, guard⟩ :: rest) a w :=
  wpList_val hw _ (exec_field ty x i vx v hx h) hk
end

def nE (k b e : Int) : Ent := ⟨k, 0, 0, e, b, 0, 0, 0, 0, 0, List.replicate 32 0⟩
def n1 : Ent := nE 1 0 4611686018427387904
def n2 : Ent := nE 1 1 1
def n3 : Ent := nE 4 0 (-1)
def n5 : Ent := nE 9 0 0
def n6 : Ent := ⟨5, 0, 0, 0, 0, 0, 0, 0, 0, 4, List.replicate 32 0⟩
def n0 : Ent := nE 0 0 0
theorem build_n1 (w : World) : (Instr.build 28 #[(0, .int .i64 1), (3, .int .i64 4611686018427387904)]).run Tryd.prog w = .ok (.agg n1.arr) w := by kernel_rfl
theorem build_n2 (w : World) : (Instr.build 28 #[(0, .int .i64 1), (4, .int .i64 1), (3, .int .i64 1)]).run Tryd.prog w = .ok (.agg n2.arr) w := by kernel_rfl
theorem build_n3 (w : World) : (Instr.build 28 #[(0, .int .i64 4), (3, .int .i64 (-1))]).run Tryd.prog w = .ok (.agg n3.arr) w := by kernel_rfl
theorem build_n5 (w : World) : (Instr.build 28 #[(0, .int .i64 9)]).run Tryd.prog w = .ok (.agg n5.arr) w := by kernel_rfl
theorem build_n6 (w : World) : (Instr.build 28 #[(0, .int .i64 5), (9, .int .u64 4)]).run Tryd.prog w = .ok (.agg n6.arr) w := by kernel_rfl
theorem build_n0 (w : World) : (Instr.build 28 #[]).run Tryd.prog w = .ok (.agg n0.arr) w := by kernel_rfl
theorem build_t0 (w : World) : (Instr.build 32 #[]).run Tryd.prog w = .ok (.agg Tot.zero.arr) w := by kernel_rfl
theorem nE_ok (k b e : Int) (h1 : IntKind.i64.wrap k = k) (h2 : IntKind.i64.wrap e = e) (h3 : IntKind.i64.wrap b = b) : (nE k b e).ok := en_ok k 0 0 e b 0 0 0 h1 rfl rfl h2 h3 rfl rfl rfl
theorem n1_ok : n1.ok := nE_ok _ _ _ rfl rfl rfl
theorem n2_ok : n2.ok := nE_ok _ _ _ rfl rfl rfl
theorem n3_ok : n3.ok := nE_ok _ _ _ rfl rfl rfl
theorem n5_ok : n5.ok := nE_ok _ _ _ rfl rfl rfl
theorem n6_ok : n6.ok := ⟨rfl, rfl, rfl, rfl, rfl, rfl, rfl, rfl, rfl, rfl, List.length_replicate, fun x hx => by have := List.eq_of_mem_replicate hx; omega⟩
theorem ns_ok (e : Ent) (h : e = n1 ∨ e = n2 ∨ e = n3 ∨ e = n5 ∨ e = n6) : e.ok := by
  rcases h with rfl | rfl | rfl | rfl | rfl
  · exact n1_ok
  · exact n2_ok
  · exact n3_ok
  · exact n5_ok
  · exact n6_ok
theorem nf1 : (addP (runB []) n1).2 = 0 := by decide +kernel
theorem nf2 : (addP (runB [n1]) n2).2 = 10 := by decide +kernel
theorem nf3 : (addP (runB [n1, n2]) n3).2 = 0 := by decide +kernel
theorem nf4 : (addP (runB [n1, n2, n3]) n2).2 = 0 := by decide +kernel
theorem nf5 : (addP (runB [n1, n2, n3, n2]) n5).2 = 150 := by decide +kernel
theorem nf6 : (addP (runB [n1, n2, n3, n2, n5]) n6).2 = 0 := by decide +kernel
def bk6 : Bk := runB [n1, n2, n3, n2, n5, n6]
theorem bk6_many : bk6.many = 4 := by decide +kernel
theorem bk6_seals : bk6.seals = 1 := by decide +kernel
theorem bk6_field (w : World) : (Instr.field 36 (.agg (bk6.sumI 0).arr) 0).run Tryd.prog w = .ok (.int .i64 4611686018427387904) w := by kernel_rfl
theorem bk6_ok : bk6.ok 6 := runB_ok [n1, n2, n3, n2, n5, n6] fun e he => ns_ok e (by
  simp only [List.mem_cons, List.not_mem_nil, or_false] at he
  rcases he with h | h | h | h | h | h <;> simp [h])
theorem bk6_ne : decide (Bk.zero = bk6) = false := decide_eq_false fun h => by
  have := congrArg Bk.many h
  rw [bk6_many] at this
  exact absurd this (by decide)
theorem add_list {w : World} (hT : WordsT w) (l : List Ent) (x : Ent) (r : Int) (hl : ∀ e ∈ l, e.ok) (hx : x.ok) (hn : l.length < 100) (hr : (addP (runB l) x).2 = r) (g : Nat) (V : World) (hg : w.heap.size ≤ g) (hV : Held V g 40 (runB l).arr) (hb : Below w.heap.size w V) :
    Calls Tryd.prog 9 #[.pointer (some ⟨g, 0, none⟩), .agg x.arr] V fun e V' => e = .returned (.int .i64 r) ∧ Held V' g 40 (runB (l ++ [x])).arr ∧ Below w.heap.size w V' := by
  refine (badd_any l.length (by omega) (by omega) _ (runB_ok l hl) x hx g V hV (hT.up hb)).mono ?_
  rintro e V' ⟨h1, h2, h3⟩
  refine ⟨by rw [h1, hr], by rw [runB_snoc]; exact h2, hb.trans (h3.below hg hb.size)⟩
theorem add_none (x : Ent) (w : World) : Calls Tryd.prog 9 #[.pointer none, .agg x.arr] w fun e w' => e = .returned (.int .i64 1) ∧ Below w.heap.size w w' := by
  generalize x.arr = X
  go_in
  go_upto_region 1 with (fail)
  have hb0 : Below w.heap.size w (w.alloc (.cells X 28)) := (Below.refl _ _).alloc (Nat.le_refl _) _
  generalize w.alloc (.cells X 28) = W1 at hb0 ⊢
  go_wp2_with fail
  go_ret
  exact ⟨rfl, hb0⟩
theorem len_none (w : World) : Calls Tryd.prog 13 #[.pointer none] w fun e w' => e = .returned (.int .i64 0) ∧ w' = w := by
  go_in
  go_wp2
  go_ret
  exact ⟨rfl, rfl⟩
theorem copy_none (w : World) : Calls Tryd.prog 14 #[.pointer none] w fun e w' => e = .returned (.pointer none) ∧ w' = w := by
  go_in
  go_wp2
  go_ret
  exact ⟨rfl, rfl⟩
theorem meters_none (w : World) : Calls Tryd.prog 23 #[.pointer none] w fun e w' => e = .returned (.slice none 0 0) ∧ w' = w := by
  go_in
  go_wp2
  go_ret
  exact ⟨rfl, rfl⟩
theorem lines_none (w : World) : Calls Tryd.prog 22 #[.pointer none] w fun e w' => e = .returned (.slice none 0 0) ∧ Below w.heap.size w w' := by
  have hb1 : Below w.heap.size w (w.alloc (.cells #[.slice none 0 0] 56)) := (Below.refl _ _).alloc (Nat.le_refl _) _
  go_in
  go_wp2_with (go_at_call 23; refine (meters_none _).mono ?_; rintro e w' ⟨rfl, rfl⟩)
  refine wp_loop_rounds 1 ?_
  iterate 1
    rw [rounds_succ]
    go_wp2_with fail
  go_ret
  exact ⟨rfl, hb1⟩
theorem same_zero (w : World) : Calls Tryd.prog 15 #[.pointer none, .pointer (some ⟨w.heap.size, 0, none⟩)] (w.alloc (.cells Bk.zero.arr 40)) fun e w' => e = .returned (.bool true) ∧ Below w.heap.size w w' := by
  refine (same_none 0 _ Bk.zero_ok w.heap.size _ (Held.new w _ _)).mono ?_
  rintro e w' ⟨h1, h2⟩
  exact ⟨by rw [h1]; simp, ((Below.refl _ _).alloc (Nat.le_refl _) _).trans (h2.mono (by simp))⟩
set_option maxHeartbeats 4000000 in
theorem names_any (w : World) (hT : WordsT w) (hP : P10 w) : Calls Tryd.prog 7 #[] w fun e w' => e = .returned (.bool true) ∧ Below w.heap.size w w' := by
  have HA := Lib.hid (fun (V : World) (hV : Below w.heap.size w V) => alive_any V (hT.up hV) (tabIs_up hP hV))
  have lk : ∀ l : List Ent, (∀ e ∈ l, e = n1 ∨ e = n2 ∨ e = n3 ∨ e = n5 ∨ e = n6) → ∀ e ∈ l, e.ok := fun l h e he => ns_ok e (h e he)
  have A1 := Lib.hid (fun V => add_list hT [] n1 0 (lk _ (by simp)) n1_ok (by decide) nf1 w.heap.size V (Nat.le_refl _))
  have A2 := Lib.hid (fun V => add_list hT [n1] n2 10 (lk _ (by simp)) n2_ok (by decide) nf2 w.heap.size V (Nat.le_refl _))
  have A3 := Lib.hid (fun V => add_list hT [n1, n2] n3 0 (lk _ (by simp)) n3_ok (by decide) nf3 w.heap.size V (Nat.le_refl _))
  have A4 := Lib.hid (fun V => add_list hT [n1, n2, n3] n2 0 (lk _ (by simp)) n2_ok (by decide) nf4 w.heap.size V (Nat.le_refl _))
  have A5 := Lib.hid (fun V => add_list hT [n1, n2, n3, n2] n5 150 (lk _ (by simp)) n5_ok (by decide) nf5 w.heap.size V (Nat.le_refl _))
  have A6 := Lib.hid (fun V => add_list hT [n1, n2, n3, n2, n5] n6 0 (lk _ (by simp)) n6_ok (by decide) nf6 w.heap.size V (Nat.le_refl _))
  simp only [List.nil_append, List.cons_append] at A1 A2 A3 A4 A5 A6
  have HLEN := Lib.hid (fun V hV => len_any 6 bk6 bk6_ok w.heap.size V hV)
  have HSEA := Lib.hid (fun V hV => seals_any 6 bk6 bk6_ok w.heap.size V hV)
  have HSUM := Lib.hid (fun V hV => bsum_any 6 bk6 bk6_ok w.heap.size 0 V hV)
  have HTOT := Lib.hid (fun V hV => total_any 6 bk6 bk6_ok w.heap.size 64 0 V hV)
  have HSAME := Lib.hid (fun V hV => same_none 6 bk6 bk6_ok w.heap.size V hV)
  rw [bk6_many] at HLEN
  rw [bk6_seals] at HSEA
  rw [bk6_ne] at HSAME
  rw [show bk6.totI 64 0 = Tot.zero from rfl] at HTOT
  have HFLD := Lib.hid bk6_field
  have HNONE := Lib.hid (add_none n0)
  have HEQ : Hid (∀ v, (binOp .eql 32 (.agg Tot.zero.arr) (.agg Tot.zero.arr)).run Tryd.prog v = .ok (.bool true) v) := Lib.hid (fun v => by rw [tot_eql]; simp)
  have G1 := Lib.hid build_n1
  have G2 := Lib.hid build_n2
  have G3 := Lib.hid build_n3
  have G5 := Lib.hid build_n5
  have G6 := Lib.hid build_n6
  have G0 := Lib.hid build_n0
  have GT := Lib.hid build_t0
  have GB := Lib.hid build_book
  have HZ := Lib.hid same_zero
  have hB0' : Held (w.alloc (.cells (runB []).arr 40)) w.heap.size 40 (runB []).arr := Held.new w _ _
  change Hid (∀ V, Held V w.heap.size 40 bk6.arr → _) at HLEN
  have A6' : Hid (∀ V : World, Held V w.heap.size 40 (runB [n1, n2, n3, n2, n5]).arr → Below w.heap.size w V → Calls Tryd.prog 9 #[.pointer (some ⟨w.heap.size, 0, none⟩), .agg n6.arr] V fun e V' => e = .returned (.int .i64 0) ∧ Held V' w.heap.size 40 bk6.arr ∧ Below w.heap.size w V') := A6
  clear A6 lk hT hP
  have hz : (runB []).arr = Bk.zero.arr := rfl
  rw [hz] at hB0' A1
  clear hz
  generalize (runB [n1]).arr = B1 at A1 A2
  generalize (runB [n1, n2]).arr = B2 at A2 A3
  generalize (runB [n1, n2, n3]).arr = B3 at A3 A4
  generalize (runB [n1, n2, n3, n2]).arr = B4 at A4 A5
  generalize (runB [n1, n2, n3, n2, n5]).arr = B5 at A5 A6'
  generalize bk6.arr = B6 at A6' HLEN HSEA HSUM HTOT HSAME
  generalize (bk6.sumI 0).arr = S0 at HSUM HFLD
  generalize n1.arr = X1 at A1 G1
  generalize n2.arr = X2 at A2 A4 G2
  generalize n3.arr = X3 at A3 G3
  generalize n5.arr = X5 at A5 G5
  generalize n6.arr = X6 at A6' G6
  generalize n0.arr = X0 at HNONE G0
  generalize Tot.zero.arr = T0 at HTOT HEQ GT
  have hb0 : Below w.heap.size w (w.alloc (.cells Bk.zero.arr 40)) := (Below.refl _ _).alloc (Nat.le_refl _) _
  generalize Bk.zero.arr = Z at A1 GB HZ hB0' hb0
  go_in
  go_upto_region 2 with ((with_reducible refine wpList_build_at (dst := some 9) 40 #[] #[] _ (by kernel_rfl) (by kernel_rfl) (GB.out _) ?_); simp only [Act.put, List.setIfInBounds_toArray, List.set_cons_succ, List.set_cons_zero])
  generalize w.alloc (.cells Z 40) = W0 at hB0' hb0 ⊢
  go_upto_region 8 with (first
    | ((with_reducible refine wpList_build_at (dst := some 12) 28 _ _ _ (by kernel_rfl) (by kernel_rfl) (G1.out _) ?_); simp only [Act.put, List.setIfInBounds_toArray, List.set_cons_succ, List.set_cons_zero])
    | ((with_reducible refine wpList_build_at (dst := some 15) 28 _ _ _ (by kernel_rfl) (by kernel_rfl) (G2.out _) ?_); simp only [Act.put, List.setIfInBounds_toArray, List.set_cons_succ, List.set_cons_zero])
    | ((with_reducible refine wpList_build_at (dst := some 18) 28 _ _ _ (by kernel_rfl) (by kernel_rfl) (G3.out _) ?_); simp only [Act.put, List.setIfInBounds_toArray, List.set_cons_succ, List.set_cons_zero])
    | ((with_reducible refine wpList_build_at (dst := some 21) 28 _ _ _ (by kernel_rfl) (by kernel_rfl) (G2.out _) ?_); simp only [Act.put, List.setIfInBounds_toArray, List.set_cons_succ, List.set_cons_zero])
    | ((with_reducible refine wpList_build_at (dst := some 24) 28 _ _ _ (by kernel_rfl) (by kernel_rfl) (G5.out _) ?_); simp only [Act.put, List.setIfInBounds_toArray, List.set_cons_succ, List.set_cons_zero])
    | ((with_reducible refine wpList_build_at (dst := some 27) 28 _ _ _ (by kernel_rfl) (by kernel_rfl) (G6.out _) ?_); simp only [Act.put, List.setIfInBounds_toArray, List.set_cons_succ, List.set_cons_zero])
    | (go_at_call 9; (with_reducible refine (A1.out _ hB0' hb0).mono ?_); rintro e V1 ⟨rfl, hB1, hb1⟩)
    | (go_at_call 9; (with_reducible refine (A2.out _ hB1 hb1).mono ?_); rintro e V2 ⟨rfl, hB2, hb2⟩)
    | (go_at_call 9; (with_reducible refine (A3.out _ hB2 hb2).mono ?_); rintro e V3 ⟨rfl, hB3, hb3⟩)
    | (go_at_call 9; (with_reducible refine (A4.out _ hB3 hb3).mono ?_); rintro e V4 ⟨rfl, hB4, hb4⟩)
    | (go_at_call 9; (with_reducible refine (A5.out _ hB4 hb4).mono ?_); rintro e V5 ⟨rfl, hB5, hb5⟩)
    | (go_at_call 9; (with_reducible refine (A6'.out _ hB5 hb5).mono ?_); rintro e V6 ⟨rfl, hB6, hb6⟩))
  clear hB0' hb0 hB1 hb1 hB2 hb2 hB3 hb3 hB4 hb4 hB5 hb5 A1 A2 A3 A4 A5 A6' G1 G2 G3 G5 G6
  have l6 := hB6.lt
  go_wp2_with (first
    | (go_at_call 8; (with_reducible refine (HA.out _ hb6).mono ?_); rintro e V7 ⟨rfl, hc7⟩; (have hB7 := hB6.below hc7 l6); (have hb7 := hb6.trans (hc7.mono hb6.size)); (have z7 := hc7.size))
    | (go_at_call 13; (with_reducible refine (HLEN.out _ hB7).mono ?_); rintro e V' ⟨rfl, rfl⟩)
    | (go_at_call 12; (with_reducible refine (HSEA.out _ hB7).mono ?_); rintro e V' ⟨rfl, rfl⟩)
    | (go_at_call 11; (with_reducible refine (HSUM.out _ hB7).mono ?_); rintro e V8 ⟨rfl, hc8⟩; (have hB8 := hB7.below hc8 (by omega)); (have hb8 := hb7.trans (hc8.mono hb7.size)); (have z8 := hc8.size))
    | ((with_reducible refine wpList_field_at (dst := some 75) 36 (.tmp 74) 0 (.agg S0) _ (by kernel_rfl) (by kernel_rfl) (HFLD.out _) ?_); simp only [Act.put, List.setIfInBounds_toArray, List.set_cons_succ, List.set_cons_zero])
    | (go_at_call 10; (with_reducible refine (HTOT.out _ hB8).mono ?_); rintro e V9 ⟨rfl, hc9⟩; (have hB9 := hB8.below hc9 (by omega)); (have hb9 := hb8.trans (hc9.mono hb8.size)); (have z9 := hc9.size))
    | ((with_reducible refine wpList_build_at (dst := some 81) 32 #[] #[] _ (by kernel_rfl) (by kernel_rfl) (GT.out _) ?_); simp only [Act.put, List.setIfInBounds_toArray, List.set_cons_succ, List.set_cons_zero])
    | ((with_reducible refine wpList_bin_at (dst := some 82) .eql 32 32 (.tmp 80) (.tmp 81) (.agg T0) (.agg T0) _ (by kernel_rfl) (by kernel_rfl) (by kernel_rfl) (tot_guard _ _ _ _ _) (HEQ.out _) ?_); simp only [Act.put, List.setIfInBounds_toArray, List.set_cons_succ, List.set_cons_zero])
    | ((with_reducible refine wpList_build_at (dst := some 86) 28 #[] #[] _ (by kernel_rfl) (by kernel_rfl) (G0.out _) ?_); simp only [Act.put, List.setIfInBounds_toArray, List.set_cons_succ, List.set_cons_zero])
    | (go_at_call 9; (with_reducible refine (HNONE.out _).mono ?_); rintro e V10 ⟨rfl, hc10⟩; (have hB10 := hB9.below hc10 (by omega)); (have hb10 := hb9.trans (hc10.mono hb9.size)); (have z10 := hc10.size))
    | (go_at_call 13; (with_reducible refine (len_none _).mono ?_); rintro e V' ⟨rfl, rfl⟩)
    | (go_at_call 14; (with_reducible refine (copy_none _).mono ?_); rintro e V' ⟨rfl, rfl⟩)
    | ((with_reducible refine wpList_build_at (dst := some 102) 40 #[] #[] _ (by kernel_rfl) (by kernel_rfl) (GB.out _) ?_); simp only [Act.put, List.setIfInBounds_toArray, List.set_cons_succ, List.set_cons_zero])
    | (go_at_call 15; (with_reducible refine (HZ.out _).mono ?_); rintro e V11 ⟨rfl, hc11⟩; (have hB11 := hB10.below hc11 (by omega)); (have hb11 := hb10.trans (hc11.mono hb10.size)); (have z11 := hc11.size))
    | (go_at_call 15; (with_reducible refine (HSAME.out _ hB11).mono ?_); rintro e V12 ⟨rfl, hc12⟩; (have hb12 := hb11.trans (hc12.mono hb11.size)); (have z12 := hc12.size))
    | (go_at_call 22; (with_reducible refine (lines_none _).mono ?_); rintro e V13 ⟨rfl, hc13⟩; (have hb13 := hb12.trans (hc13.mono hb12.size))))
  go_ret
  exact ⟨rfl, hb13⟩
end Go.Proofs.YtjcpgnachkhjaaaDoor
