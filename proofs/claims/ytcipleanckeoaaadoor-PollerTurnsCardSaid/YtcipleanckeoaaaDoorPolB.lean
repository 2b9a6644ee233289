/- The points that are due: the iterator. -/
import Derived.Test.YtcipleanckeoaaaDoorPolA
import Derived.Test.YtcipleanckeoaaaDoorCommon
import Derived.RangeFuncNested
import Derived.RangeFuncBound
import Derived.RangeFuncCalls
import Derived.RangeFuncLeaves
import Derived.OwnWalkIn
import Derived.TacticsInMore
import Derived.LoopNIn
import Derived.LoopIn
namespace Go.Proofs.YtcipleanckeoaaaDoor
open Go.RowKit
attribute [local go_sem] Oper.semAt_some
set_option linter.unusedVariables false
set_option linter.unusedSimpArgs false
set_option maxRecDepth 100000
def dueV (x : Nat × Int) : Array Value := #[.int .i64 (x.1 : Int), .int .i64 x.2]
/-- Those that are due among the first n. -/
def dueN (now : Int) (l : List PPt) : Nat → List (Nat × Int)
  | 0 => []
  | i + 1 => match l[i]? with
    | none => dueN now l i
    | some x => if now < x.due then dueN now l i else dueN now l i ++ [(i, x.due)]
theorem dueN_at (now : Int) (l : List PPt) (i : Nat) (x : PPt) (h : l[i]? = some x) : dueN now l (i + 1) = if now < x.due then dueN now l i else dueN now l i ++ [(i, x.due)] := by
  show (match l[i]? with | none => _ | some x => _) = _
  rw [h]
theorem dueN_len (now : Int) (l : List PPt) (n : Nat) : (dueN now l n).length ≤ n := by
  induction n with
  | zero => exact Nat.le_refl _
  | succ n ih =>
    show (match l[n]? with | none => _ | some x => _ : List (Nat × Int)).length ≤ _
    split
    · omega
    · split
      · omega
      · rw [List.length_append]; simp; omega
theorem dueN_pre (now : Int) (l : List PPt) (m : Nat) : ∀ n, m ≤ n → dueN now l m <+: dueN now l n := by
  intro n
  induction n with
  | zero =>
    intro h
    obtain rfl : m = 0 := by omega
    exact List.prefix_refl _
  | succ n ih =>
    intro h
    by_cases hm : m = n + 1
    · subst hm; exact List.prefix_refl _
    · refine (ih (by omega)).trans ?_
      show _ <+: (match l[n]? with | none => _ | some x => _ : List (Nat × Int))
      split
      · exact List.prefix_refl _
      · split
        · exact List.prefix_refl _
        · exact List.prefix_append _ _
/-- What a round must keep. -/
def Kd (Bp g gl : Nat) (A B : World) : Prop := A.heap.size ≤ B.heap.size ∧ B.heap[Bp]? = A.heap[Bp]? ∧ B.heap[gl]? = A.heap[gl]? ∧ B.cell? ⟨g, 7, none⟩ = A.cell? ⟨g, 7, none⟩
theorem Kd.trans {Bp g gl : Nat} {A B C : World} (h : Kd Bp g gl A B) (k : Kd Bp g gl B C) : Kd Bp g gl A C := ⟨Nat.le_trans h.1 k.1, k.2.1.trans h.2.1, k.2.2.1.trans h.2.2.1, k.2.2.2.trans h.2.2.2⟩
theorem Kd.refl (Bp g gl : Nat) (A : World) : Kd Bp g gl A A := ⟨Nat.le_refl _, rfl, rfl, rfl⟩
/-- What the iterator reads. -/
def DueR (Bp g gl cap : Nat) (cur : Array Value) (now : Int) (n : Nat) (W : World) : Prop :=
  Held W Bp 78 #[.pointer (some ⟨g, 0, none⟩)] ∧ Held W gl 145 cur ∧ W.cell? ⟨g, 7, none⟩ = some (.int .i64 now)
theorem DueR.keep {Bp g gl cap : Nat} {cur : Array Value} {now : Int} {n : Nat} {A B : World} (h : DueR Bp g gl cap cur now n A) (k : Kd Bp g gl A B) : DueR Bp g gl cap cur now n B :=
  ⟨k.2.1.trans h.1, k.2.2.1.trans h.2.1, k.2.2.2.trans h.2.2⟩
theorem DueR.below {Bp g gl cap : Nat} {cur : Array Value} {now : Int} {n : Nat} {A B : World} (h : DueR Bp g gl cap cur now n A) (k : Below A.heap.size A B) : DueR Bp g gl cap cur now n B :=
  ⟨h.1.below k h.1.lt, h.2.1.below k h.2.1.lt, (k.cell (p := ⟨g, 7, none⟩) (World.block_lt_of_cell? A _ h.2.2)).trans h.2.2⟩
theorem grown_drewN {a w : World} {r : Option Nat} (h : a.grownBy w r) (n : Nat) : a.grownBy (w.drewN n) r := ⟨h.os, h.tape, h.output, h.size, h.block⟩
set_option maxHeartbeats 4000000 in
theorem due1_in (l0 Bp g gl cap : Nat) (cur : Array Value) (l : List PPt) (now : Int) (hcur : PtC cur l) (hl : l.length ≤ 1000) (J Jx : List (Nat × Int) → World → Prop) (W : World) (hJ : AbidesFrom W.heap.size J)
    (hY : ∀ pre x W, J pre W → pre.length < l.length → YieldAt Fence.wide 4 Tryd.prog l0 (dueV x) W fun e W' =>
      (e = .returned (.bool true) ∧ J (pre ++ [x]) W' ∧ Kd Bp g gl W W') ∨ (e = .returned (.bool false) ∧ Jx (pre ++ [x]) W'))
    (hR : DueR Bp g gl cap cur now l.length W) (h6 : W.cell? ⟨g, 6, none⟩ = some (.slice (some ⟨gl, 0, none⟩) l.length cap)) (h0 : J [] W) :
    CallsIn Fence.wide 5 Tryd.prog 139 #[.func (.yield l0) #[] #[], .pointer (some ⟨Bp, 0, none⟩)] W fun e W' => (∃ v, e = .returned v) ∧
      ((∃ ys, ys = dueN now l l.length ∧ J ys W') ∨ (∃ pre, pre <+: dueN now l l.length ∧ Jx pre W')) := by
  have hp := hR.1.cell 0
  simp only [List.getElem?_toArray, List.getElem?_cons_zero] at hp
  have HC := Lib.hid hcur
  have HPRE := Lib.hid (fun m hm => dueN_pre now l m l.length hm)
  clear hcur
  refine callsIn_of_wp Tryd.func139 rfl trivial ?_ rfl
  simp only [Tryd.ntmps139, List.size_toArray, List.length_cons, List.length_nil, Nat.reduceAdd, Nat.reduceSub, Array.replicate_succ, Array.replicate_zero, List.push_toArray, List.append_toArray, List.nil_append, List.cons_append]
  gi_wp2
  refine wpIn_scope ?_
  gi_wp2
  refine wpIn_label ?_
  gi_wp2
  gi_loopw [10] (fun i wr => ∃ k : Nat, k ≤ l.length ∧ i = .int .i64 k ∧ J (dueN now l k) wr ∧ DueR Bp g gl cap cur now l.length wr) (fun i _ => l.length - (intOf i).toNat)
  case atStart => exact ⟨0, by omega, rfl, h0, hR⟩
  case round =>
    obtain ⟨k, hk, rfl, hJk, hRk⟩ := hrel
    by_cases hlt : k < l.length
    · obtain ⟨x, hx⟩ : ∃ x, l[k]? = some x := ⟨_, List.getElem?_eq_getElem hlt⟩
      have hkI : (k : Int) < (l.length : Int) := by omega
      have q := fun j v hv => (hRk.2.1.cell (k * 7 + j)).trans (HC.out k x hx j v hv)
      have q0 := q 0 _ rfl
      have q1 := q 1 _ rfl
      have q2 := q 2 _ rfl
      have q3 := q 3 _ rfl
      have q4 := q 4 _ rfl
      have q5 := q 5 _ rfl
      have q6 := q 6 _ rfl
      simp only [Nat.add_zero] at q0
      have HS := Lib.hid (dueN_at now l k x hx)
      clear q hx
      gi_wp2
      obtain ⟨w2, hw2⟩ : ∃ Y : World, wr.alloc (.cells #[.int .i64 x.unit, .int .i64 x.fn, .int .i64 x.addr, .int .i64 x.order, .int .i64 x.due, .int .i64 x.fails, .int .i64 x.turns] 145) = Y := ⟨_, rfl⟩
      have hR2 : DueR Bp g gl cap cur now l.length w2 := by rw [← hw2]; exact hRk.below ((Below.refl _ _).alloc (Nat.le_refl _) _)
      have hJ2 : J (dueN now l k) w2 := by rw [← hw2]; exact hJ _ _ _ none hJk (World.grownBy_alloc _ _ none) (fun r e => by cases e)
      have hX2 : Held w2 wr.heap.size 145 #[.int .i64 x.unit, .int .i64 x.fn, .int .i64 x.addr, .int .i64 x.order, .int .i64 x.due, .int .i64 x.fails, .int .i64 x.turns] := by rw [← hw2]; exact Held.new _ _ _
      rw [hw2]
      clear hw2 q0 q1 q2 q3 q4 q5 q6 hp h6
      have x4 := hX2.cell 4
      have hp := hR2.1.cell 0
      simp only [List.getElem?_toArray, List.getElem?_cons_zero, List.getElem?_cons_succ] at x4 hp
      have h7 := hR2.2.2
      have HJ3 := Lib.hid (fun n => hJ _ _ _ none hJ2 (grown_drewN (World.grownBy.refl w2 none) n) (fun r e => by cases e))
      have HR3 : Hid (∀ n, DueR Bp g gl cap cur now l.length (w2.drewN n)) := Lib.hid (fun n => hR2)
      have HX3 := Lib.hid hX2
      generalize wr.heap.size = bx at *
      clear hR2 hJ2 hJk hRk hX2
      refine wpIn_wide.2 ?_
      by_cases hd : now < x.due
      · go_quiet (fail)
        have HS2 := Lib.hid (HS.out.trans (if_pos hd))
        clear HS x4 hp h7 hd
        gi_wp2
        go_roundw
        case rel => exact ⟨k + 1, by omega, by go_num, by rw [HS2.out]; exact HJ3.out _, HR3.out _⟩
        case measure => simp [intOf]; omega
      · have hdb : decide (now < x.due) = false := decide_eq_false hd
        go_quiet (fail)
        have HS2 := Lib.hid (HS.out.trans (if_neg hd))
        obtain ⟨fn, tmps, assign, body, hy, hRR⟩ := hY _ (k, x.due) (w2.drewN nq) (HJ3.out nq) (by have := dueN_len now l k; omega)
        unfold dueV at hy
        dsimp only at hy
        obtain ⟨w3, hw3⟩ : ∃ Y : World, w2.drewN nq = Y := ⟨_, rfl⟩
        have x4 : w3.cell? ⟨bx, 4, none⟩ = some (.int .i64 x.due) := by rw [← hw3]; exact x4
        rw [hw3] at hy ⊢
        have HR4 := Lib.hid (HR3.out nq)
        rw [hw3] at HR4 hRR
        clear HS hp h7 hd hdb hw3 HR3 HJ3 HX3
        gi_wp2
        refine hRR.mono ?_
        rintro e W3 (⟨rfl, hJ3, hk3⟩ | ⟨rfl, hJx3⟩)
        · gi_wp2
          go_roundw
          case rel => exact ⟨k + 1, by omega, by go_num, by rw [HS2.out]; exact hJ3, HR4.out.keep hk3⟩
          case measure => simp [intOf]; omega
        · gi_wp2
          rw [Exit.noGoto_ret]
          refine bodyPost_ret (results_none rfl _ _ _) rfl ?_
          exact ⟨⟨_, rfl⟩, .inr ⟨_, by rw [← HS2.out]; exact HPRE.out (k + 1) (by omega), hJx3⟩⟩
    · obtain rfl : k = l.length := by omega
      gi_wp2
      refine ⟨rfl, _, results_none rfl _ _ _, ?_⟩
      exact ⟨⟨_, rfl⟩, .inl ⟨_, rfl, hJk⟩⟩
theorem due_in (g : Nat) (w : World) :
    CallsIn Fence.wide 5 Tryd.prog 111 #[.pointer (some ⟨g, 0, none⟩)] w fun e w' => e = .returned (.func (.func 139) #[] #[.pointer (some ⟨w.heap.size, 0, none⟩)]) ∧ w' = w.alloc (.cells #[.pointer (some ⟨g, 0, none⟩)] 78) := by
  refine callsIn_of_wp Tryd.func111 rfl trivial ?_ rfl
  simp only [Tryd.ntmps111, List.size_toArray, List.length_cons, List.length_nil, Nat.reduceAdd, Nat.reduceSub, Array.replicate_succ, Array.replicate_zero, List.push_toArray, List.append_toArray, List.nil_append, List.cons_append]
  gi_wp2
  go_ret
  exact ⟨rfl, rfl⟩
theorem due_stops (Bp g gl cap : Nat) (cur : Array Value) (l : List PPt) (now : Int) (hcur : PtC cur l) (hl : l.length ≤ 1000) (w : World) (hR : DueR Bp g gl cap cur now l.length w) (h6 : w.cell? ⟨g, 6, none⟩ = some (.slice (some ⟨gl, 0, none⟩) l.length cap)) :
    SeqStopsK Fence.wide 5 Tryd.prog 139 #[.pointer (some ⟨Bp, 0, none⟩)] dueV (Kd Bp g gl) (fun ys => ys = dueN now l l.length) (fun pre => pre <+: dueN now l l.length) l.length w := fun l0 J Jx W hW hJ _ hY h0 =>
  due1_in l0 Bp g gl cap cur l now hcur hl J Jx W hJ hY (hR.below hW) ((hW.cell (p := ⟨g, 6, none⟩) (World.block_lt_of_cell? w _ h6)).trans h6) h0
end Go.Proofs.YtcipleanckeoaaaDoor
