/- bus.pieces: its iterator's contract. -/
import Derived.Test.YtcipleanckeoaaaDoorYBusApp
import Derived.Test.YtcipleanckeoaaaDoorYBusActs
import Derived.LoopIn
import Derived.LoopNIn
import Derived.OwnWalkIn
import Derived.TacticsInMore
set_option maxRecDepth 100000
set_option maxHeartbeats 40000000
namespace Go.Proofs.YtcipleanckeoaaaDoor
open Go.RowKit
attribute [local go_sem] Oper.semAt_some
set_option linter.unusedVariables false
set_option linter.unusedSimpArgs false
def AbP (Bb : Nat) (X X' : World) : Prop := ∃ A n c, X' = X.setCell ⟨Bb, 0, none⟩ (.slice A n c)
def KpP (Bt Bb Ba : Nat) (X X' : World) : Prop := X'.heap[Bt]? = X.heap[Bt]? ∧ X'.heap[Bb]? = X.heap[Bb]? ∧ X'.heap[Ba]? = X.heap[Ba]?
def isTwo (gap : Int) (n : Nat) : Bool := decide (0 < gap ∧ 1 < n)
def encP (t0 gap : Int) (g off n c : Nat) : Nat → Array Value
 | 0 => if isTwo gap n then #[.agg #[.int .i64 t0, .slice (some ⟨g, off, none⟩) (n / 2) c]] else #[.agg #[.int .i64 t0, .slice (some ⟨g, off, none⟩) n c]]
 | _ + 1 => #[.agg #[.int .i64 (t0 + gap), .slice (some ⟨g, off + n / 2, none⟩) (n - n / 2) (c - n / 2)]]
def numP (gap : Int) (n : Nat) : Nat := if n = 0 then 0 else if isTwo gap n then 2 else 1
theorem pieces_0 (F : Fence) (n : Nat) (hF : F.fn 90) (hro : F.round = none) (l Bt Bb Ba : Nat) (t : Int) (ac : ActP) (Ar : Option Addr) (nr cr : Nat) (D : Option Addr) (nd cd : Nat) (A : Option Addr) (c : Nat) (J : Nat → World → Prop) (W : World)
  (ht : Held W Bt 2 #[.int .i64 t]) (hb : Held W Bb 22 #[.slice A 0 c]) (ha : Held W Ba 29 (ac.cells Ar nr cr D nd cd)) (htr : 0 ≤ t ∧ t ≤ 2305843009213693952) (hwr : 0 ≤ ac.wait ∧ ac.wait ≤ 1073741824) (h0 : J 0 W) :
  CallsIn F n Tryd.prog 90 #[.func (.yield l) #[] #[], .pointer (some ⟨Bb, 0, none⟩), .pointer (some ⟨Ba, 0, none⟩), .pointer (some ⟨Bt, 0, none⟩)] W fun e W' => (∃ v, e = .returned v) ∧ J 0 W' := by
 have b0 : W.cell? ⟨Bb, 0, none⟩ = some (.slice A 0 c) := hb.cell 0
 have t0 : W.cell? ⟨Bt, 0, none⟩ = some (.int .i64 t) := ht.cell 0
 have a1 : W.cell? ⟨Ba, 1, none⟩ = some (.int .i64 ac.wait) := ha.cell 1
 have a2 : W.cell? ⟨Ba, 2, none⟩ = some (.int .i64 ac.gap) := ha.cell 2
 obtain ⟨wait, hw⟩ : ∃ z, ac.wait = z := ⟨_, rfl⟩
 obtain ⟨gap, hg⟩ : ∃ z, ac.gap = z := ⟨_, rfl⟩
 rw [hw] at a1 hwr
 rw [hg] at a2
 have H0 := Lib.hid h0
 clear ht hb ha hw hg h0
 refine callsIn_of_wp Tryd.func90 rfl hF ?_ hro
 simp only [Tryd.ntmps90, List.size_toArray, List.length_cons, List.length_nil, Nat.reduceAdd, Nat.reduceSub, Array.replicate_succ, Array.replicate_zero, List.push_toArray, List.append_toArray, List.nil_append, List.cons_append]
 have hd1 : decide ((0 : Int) > 1) = false := by decide
 rcases (show 0 < gap ∨ ¬ 0 < gap by omega) with hg0 | hg0
 ·have d0 : decide (gap > 0) = true := decide_eq_true hg0
  have d0' : decide (0 < gap) = true := decide_eq_true hg0
  gi_wp2
  refine wpIn_scope ?_
  gi_wp2
  refine wpIn_label ?_
  gi_wp2
  refine wpIn_loop_rounds 1 ?_
  rw [roundsIn_succ]
  gi_wp2
  simp only [Exit.noGoto]
  go_end0
  exact ⟨⟨_, rfl⟩, H0.out⟩
 ·have d0 : decide (gap > 0) = false := decide_eq_false hg0
  have d0' : decide (0 < gap) = false := decide_eq_false hg0
  gi_wp2
  refine wpIn_scope ?_
  gi_wp2
  refine wpIn_label ?_
  gi_wp2
  refine wpIn_loop_rounds 1 ?_
  rw [roundsIn_succ]
  gi_wp2
  simp only [Exit.noGoto]
  go_end0
  exact ⟨⟨_, rfl⟩, H0.out⟩
theorem pieces_1 (F : Fence) (n : Nat) (hF : F.fn 90) (hro : F.round = none) (hn : 1 ≤ n) (l Bt Bb Ba : Nat) (t : Int) (ac : ActP) (Ar : Option Addr) (nr cr : Nat) (D : Option Addr) (nd cd : Nat) (g off nn c : Nat) (J Jx : Nat → World → Prop) (W : World)
  (ht : Held W Bt 2 #[.int .i64 t]) (hb : Held W Bb 22 #[.slice (some ⟨g, off, none⟩) nn c]) (ha : Held W Ba 29 (ac.cells Ar nr cr D nd cd)) (htr : 0 ≤ t ∧ t ≤ 2305843009213693952) (hwr : 0 ≤ ac.wait ∧ ac.wait ≤ 1073741824) (hgr : 0 ≤ ac.gap ∧ ac.gap ≤ 1073741824) (h0 : J 0 W)
  (hJ : ∀ s X X', AbP Bb X X' → J s X → J s X') (hY : ∀ k X, k < 1 → J k X → YieldAt F (n - 1) Tryd.prog l (encP (t + ac.wait) ac.gap g off nn c k) X fun e X' => (e = .returned (.bool true) ∧ J (k + 1) X' ∧ KpP Bt Bb Ba X X') ∨ (e = .returned (.bool false) ∧ Jx (k + 1) X'))
  (hn1 : 0 < nn) (hc : nn ≤ c) (hm : c ≤ maxLen) (h2 : isTwo ac.gap nn = false) :
  CallsIn F n Tryd.prog 90 #[.func (.yield l) #[] #[], .pointer (some ⟨Bb, 0, none⟩), .pointer (some ⟨Ba, 0, none⟩), .pointer (some ⟨Bt, 0, none⟩)] W fun e W' => (∃ v, e = .returned v) ∧ (J 1 W' ∨ ∃ k, Jx k W') := by
 have b0 : W.cell? ⟨Bb, 0, none⟩ = some (.slice (some ⟨g, off, none⟩) nn c) := hb.cell 0
 have t0 : W.cell? ⟨Bt, 0, none⟩ = some (.int .i64 t) := ht.cell 0
 have a1 : W.cell? ⟨Ba, 1, none⟩ = some (.int .i64 ac.wait) := ha.cell 1
 have a2 : W.cell? ⟨Ba, 2, none⟩ = some (.int .i64 ac.gap) := ha.cell 2
 have fb := hb.frozen 0
 have HB := Lib.hid (fun (X Y : World) (h : KpP Bt Bb Ba X Y) (hx : Held X Bb 22 #[.slice (some ⟨g, off, none⟩) nn c] ∧ Held X Bt 2 #[.int .i64 t] ∧ Held X Ba 29 (ac.cells Ar nr cr D nd cd)) => (⟨h.2.1.trans hx.1, h.1.trans hx.2.1, h.2.2.trans hx.2.2⟩ : Held Y Bb 22 #[.slice (some ⟨g, off, none⟩) nn c] ∧ Held Y Bt 2 #[.int .i64 t] ∧ Held Y Ba 29 (ac.cells Ar nr cr D nd cd)))
 have HX0 := Lib.hid (And.intro hb (And.intro ht ha))
 have hA2 : ∀ (X : World), Held X Ba 29 (ac.cells Ar nr cr D nd cd) → X.cell? ⟨Ba, 2, none⟩ = some (.int .i64 ac.gap) := fun X h => h.cell 2
 have hbt : Bt ≠ Bb := fun e => by subst e; rw [t0] at b0; cases b0
 have hba : Ba ≠ Bb := fun e => by
  subst e
  have q : W.cell? ⟨Ba, 0, none⟩ = some (.int .i64 ac.kind) := ha.cell 0
  rw [q] at b0; cases b0
 obtain ⟨wait, hw⟩ : ∃ z, ac.wait = z := ⟨_, rfl⟩
 obtain ⟨gap, hg⟩ : ∃ z, ac.gap = z := ⟨_, rfl⟩
 rw [hw] at a1 hwr hY
 rw [hg] at a2 hgr h2 hY
 simp only [hg] at hA2
 have HA2 := Lib.hid hA2
 have HJ := Lib.hid hJ
 have HY := Lib.hid hY
 have hmx : c ≤ 9223372036854775807 := by unfold maxLen at hm; omega
 unfold isTwo at h2
 clear ht hb ha hw hg hJ hY hm hA2
 refine callsIn_of_wp Tryd.func90 rfl hF ?_ hro
 simp only [Tryd.ntmps90, List.size_toArray, List.length_cons, List.length_nil, Nat.reduceAdd, Nat.reduceSub, Array.replicate_succ, Array.replicate_zero, List.push_toArray, List.append_toArray, List.nil_append, List.cons_append]
 have HE := Lib.hid (show encP (t + wait) gap g off nn c 0 = #[.agg #[.int .i64 (t + wait), .slice (some ⟨g, off, none⟩) nn c]] by unfold encP; rw [if_neg (by unfold isTwo; rw [h2]; simp)])
 have hnn0 : decide ((nn : Int) > 0) = true := decide_eq_true (by omega)
 have hnn0' : decide (0 < nn) = true := decide_eq_true (by omega)
 have hcz : c = nn ∨ nn < c := by omega
 rcases (show (0 < gap ∧ nn = 1) ∨ gap = 0 by have := of_decide_eq_false h2; omega) with ⟨hg0, hn2⟩ | hg0
 ·subst hn2
  have d0 : decide (0 < gap) = true := decide_eq_true hg0
  have d1 : decide (1 < 1) = false := by decide
  have d1i : decide ((1 : Int) < 1) = false := by decide
  gi_wp2
  refine wpIn_scope ?_
  gi_wp2
  refine wpIn_label ?_
  gi_wp2
  refine wpIn_loop_rounds 2 ?_
  rw [roundsIn_succ]
  obtain ⟨fn, tmps, assign, body, hy, hR⟩ := HY.out 0 W (by omega) h0
  rw [HE.out] at hy
  gi_wp2
  refine hR.mono ?_
  rintro e W3 (⟨rfl, hJ3, hk3⟩ | ⟨rfl, hJx3⟩)
  ·obtain ⟨hX3, hT3, hA3⟩ := HB.out W W3 hk3 HX0.out
   have b3 : W3.cell? ⟨Bb, 0, none⟩ = some (.slice (some ⟨g, off, none⟩) 1 c) := hX3.cell 0
   have f3 := hX3.frozen 0
   have a3 : W3.cell? ⟨Ba, 2, none⟩ = some (.int .i64 gap) := HA2.out W3 hA3
   have HJ3 := Lib.hid hJ3
   clear hJ3 hk3 hX3 hT3 hA3 hy hR
   rcases hcz with hcc | hcc
   ·subst hcc
    gi_wp2
    rw [roundsIn_succ]
    gi_wp2
    simp only [Exit.noGoto]
    go_end0
    exact ⟨⟨_, rfl⟩, Or.inl (HJ.out _ _ _ ⟨_, _, _, rfl⟩ HJ3.out)⟩
   ·have hcn : ¬ (c - 1 = 0) := by omega
    gi_wp2
    rw [roundsIn_succ]
    gi_wp2
    simp only [Exit.noGoto]
    go_end0
    exact ⟨⟨_, rfl⟩, Or.inl (HJ.out _ _ _ ⟨_, _, _, rfl⟩ HJ3.out)⟩
  ·clear hy hR
   gi_wp2
   simp only [Exit.noGoto]
   go_end0
   exact ⟨⟨_, rfl⟩, Or.inr ⟨_, hJx3⟩⟩
 ·subst hg0
  have d0 : decide ((0 : Int) < 0) = false := by decide
  gi_wp2
  refine wpIn_scope ?_
  gi_wp2
  refine wpIn_label ?_
  gi_wp2
  refine wpIn_loop_rounds 2 ?_
  rw [roundsIn_succ]
  obtain ⟨fn, tmps, assign, body, hy, hR⟩ := HY.out 0 W (by omega) h0
  rw [HE.out] at hy
  gi_wp2
  refine hR.mono ?_
  rintro e W3 (⟨rfl, hJ3, hk3⟩ | ⟨rfl, hJx3⟩)
  ·obtain ⟨hX3, hT3, hA3⟩ := HB.out W W3 hk3 HX0.out
   have b3 : W3.cell? ⟨Bb, 0, none⟩ = some (.slice (some ⟨g, off, none⟩) nn c) := hX3.cell 0
   have f3 := hX3.frozen 0
   have a3 : W3.cell? ⟨Ba, 2, none⟩ = some (.int .i64 0) := HA2.out W3 hA3
   have HJ3 := Lib.hid hJ3
   clear hJ3 hk3 hX3 hT3 hA3 hy hR
   rcases hcz with hcc | hcc
   ·subst hcc
    gi_wp2
    rw [roundsIn_succ]
    gi_wp2
    simp only [Exit.noGoto]
    go_end0
    exact ⟨⟨_, rfl⟩, Or.inl (HJ.out _ _ _ ⟨_, _, _, rfl⟩ HJ3.out)⟩
   ·have hcn : ¬ (c - nn = 0) := by omega
    gi_wp2
    rw [roundsIn_succ]
    gi_wp2
    simp only [Exit.noGoto]
    go_end0
    exact ⟨⟨_, rfl⟩, Or.inl (HJ.out _ _ _ ⟨_, _, _, rfl⟩ HJ3.out)⟩
  ·clear hy hR
   gi_wp2
   simp only [Exit.noGoto]
   go_end0
   exact ⟨⟨_, rfl⟩, Or.inr ⟨_, hJx3⟩⟩
theorem pieces_2 (F : Fence) (n : Nat) (hF : F.fn 90) (hro : F.round = none) (hn : 1 ≤ n) (l Bt Bb Ba : Nat) (t : Int) (ac : ActP) (Ar : Option Addr) (nr cr : Nat) (D : Option Addr) (nd cd : Nat) (g off nn c : Nat) (J Jx : Nat → World → Prop) (W : World)
  (ht : Held W Bt 2 #[.int .i64 t]) (hb : Held W Bb 22 #[.slice (some ⟨g, off, none⟩) nn c]) (ha : Held W Ba 29 (ac.cells Ar nr cr D nd cd)) (htr : 0 ≤ t ∧ t ≤ 2305843009213693952) (hwr : 0 ≤ ac.wait ∧ ac.wait ≤ 1073741824) (hgr : 0 ≤ ac.gap ∧ ac.gap ≤ 1073741824) (h0 : J 0 W)
  (hJ : ∀ s X X', AbP Bb X X' → J s X → J s X') (hY : ∀ k X, k < 2 → J k X → YieldAt F (n - 1) Tryd.prog l (encP (t + ac.wait) ac.gap g off nn c k) X fun e X' => (e = .returned (.bool true) ∧ J (k + 1) X' ∧ KpP Bt Bb Ba X X') ∨ (e = .returned (.bool false) ∧ Jx (k + 1) X'))
  (hn1 : 1 < nn) (hc : nn ≤ c) (hm : c ≤ maxLen) (h2 : isTwo ac.gap nn = true) :
  CallsIn F n Tryd.prog 90 #[.func (.yield l) #[] #[], .pointer (some ⟨Bb, 0, none⟩), .pointer (some ⟨Ba, 0, none⟩), .pointer (some ⟨Bt, 0, none⟩)] W fun e W' => (∃ v, e = .returned v) ∧ (J 2 W' ∨ ∃ k, Jx k W') := by
 have b0 : W.cell? ⟨Bb, 0, none⟩ = some (.slice (some ⟨g, off, none⟩) nn c) := hb.cell 0
 have t0 : W.cell? ⟨Bt, 0, none⟩ = some (.int .i64 t) := ht.cell 0
 have a1 : W.cell? ⟨Ba, 1, none⟩ = some (.int .i64 ac.wait) := ha.cell 1
 have a2 : W.cell? ⟨Ba, 2, none⟩ = some (.int .i64 ac.gap) := ha.cell 2
 have fb := hb.frozen 0
 have HB := Lib.hid (fun (X Y : World) (h : KpP Bt Bb Ba X Y) (hx : Held X Bb 22 #[.slice (some ⟨g, off, none⟩) nn c] ∧ Held X Bt 2 #[.int .i64 t] ∧ Held X Ba 29 (ac.cells Ar nr cr D nd cd)) => (⟨h.2.1.trans hx.1, h.1.trans hx.2.1, h.2.2.trans hx.2.2⟩ : Held Y Bb 22 #[.slice (some ⟨g, off, none⟩) nn c] ∧ Held Y Bt 2 #[.int .i64 t] ∧ Held Y Ba 29 (ac.cells Ar nr cr D nd cd)))
 have HX0 := Lib.hid (And.intro hb (And.intro ht ha))
 have hA2 : ∀ (X : World), Held X Ba 29 (ac.cells Ar nr cr D nd cd) → X.cell? ⟨Ba, 2, none⟩ = some (.int .i64 ac.gap) := fun X h => h.cell 2
 have hbt : Bt ≠ Bb := fun e => by subst e; rw [t0] at b0; cases b0
 have hba : Ba ≠ Bb := fun e => by
  subst e
  have q : W.cell? ⟨Ba, 0, none⟩ = some (.int .i64 ac.kind) := ha.cell 0
  rw [q] at b0; cases b0
 obtain ⟨wait, hw⟩ : ∃ z, ac.wait = z := ⟨_, rfl⟩
 obtain ⟨gap, hg⟩ : ∃ z, ac.gap = z := ⟨_, rfl⟩
 rw [hw] at a1 hwr hY
 rw [hg] at a2 hgr h2 hY
 simp only [hg] at hA2
 have HA2 := Lib.hid hA2
 have HJ := Lib.hid hJ
 have HY := Lib.hid hY
 have hmx : c ≤ 9223372036854775807 := by unfold maxLen at hm; omega
 unfold isTwo at h2
 clear ht hb ha hw hg hJ hY hm hA2
 refine callsIn_of_wp Tryd.func90 rfl hF ?_ hro
 simp only [Tryd.ntmps90, List.size_toArray, List.length_cons, List.length_nil, Nat.reduceAdd, Nat.reduceSub, Array.replicate_succ, Array.replicate_zero, List.push_toArray, List.append_toArray, List.nil_append, List.cons_append]
 have hg0 : 0 < gap := (of_decide_eq_true h2).1
 obtain ⟨h, hh⟩ : ∃ h, nn / 2 = h := ⟨_, rfl⟩
 have hhI : (nn : Int) / 2 = (h : Int) := by omega
 have hhT : (nn : Int).tdiv 2 = (h : Int) := by rw [Int.tdiv_eq_ediv_of_nonneg (by omega)]; exact hhI
 obtain ⟨r, hr⟩ : ∃ r, nn - h = r := ⟨_, rfl⟩
 obtain ⟨c2, hc2⟩ : ∃ c2, c - h = c2 := ⟨_, rfl⟩
 have HE := Lib.hid (show encP (t + wait) gap g off nn c 0 = #[.agg #[.int .i64 (t + wait), .slice (some ⟨g, off, none⟩) h c]] by unfold encP; rw [if_pos (by unfold isTwo; exact h2), hh])
 have HE2 := Lib.hid (show encP (t + wait) gap g off nn c 1 = #[.agg #[.int .i64 (t + wait + gap), .slice (some ⟨g, off + h, none⟩) r c2]] by unfold encP; rw [hh, hr, hc2])
 have hh1 : 0 < h := by omega
 have hh2 : h < nn := by omega
 have hr0 : 0 < r := by omega
 have hrc : r ≤ c2 := by omega
 have hch : ¬ (c - h = 0) := by omega
 have d0 : decide (0 < gap) = true := decide_eq_true hg0
 have d1 : decide (1 < nn) = true := decide_eq_true hn1
 have d1i : decide ((1 : Int) < (nn : Int)) = true := decide_eq_true (by omega)
 have hnn0 : decide ((nn : Int) > 0) = true := decide_eq_true (by omega)
 have hnn0' : decide (0 < nn) = true := decide_eq_true (by omega)
 have hr1' : decide (0 < r) = true := decide_eq_true hr0
 have hcz : c2 = r ∨ r < c2 := by omega
 have hrI : (nn : Int) - (h : Int) = (r : Int) := by omega
 clear hh
 gi_wp2
 refine wpIn_scope ?_
 gi_wp2
 refine wpIn_label ?_
 gi_wp2
 refine wpIn_loop_rounds 3 ?_
 rw [roundsIn_succ]
 obtain ⟨fn, tmps, assign, body, hy, hR⟩ := HY.out 0 W (by omega) h0
 rw [HE.out] at hy
 gi_wp2
 refine hR.mono ?_
 rintro e W3 (⟨rfl, hJ3, hk3⟩ | ⟨rfl, hJx3⟩)
 ·obtain ⟨hX3, hT3, hA3⟩ := HB.out W W3 hk3 HX0.out
  have b3 : W3.cell? ⟨Bb, 0, none⟩ = some (.slice (some ⟨g, off, none⟩) nn c) := hX3.cell 0
  have f3 := hX3.frozen 0
  have a3 : W3.cell? ⟨Ba, 2, none⟩ = some (.int .i64 gap) := HA2.out W3 hA3
  have HJ3 := Lib.hid hJ3
  have HX3 := Lib.hid (And.intro hX3 (And.intro hT3 hA3))
  clear hJ3 hk3 hX3 hT3 hA3 hy hR
  gi_wp2
  rw [roundsIn_succ]
  obtain ⟨fn, tmps, assign, body, hy, hR⟩ := HY.out 1 _ (by omega) (HJ.out _ _ _ ⟨some ⟨g, off + h, none⟩, r, c2, rfl⟩ HJ3.out)
  rw [HE2.out] at hy
  obtain ⟨W4, hW4⟩ : ∃ Y, W3.setCell ⟨Bb, 0, none⟩ (.slice (some ⟨g, off + h, none⟩) r c2) = Y := ⟨_, rfl⟩
  rw [hW4] at hy hR ⊢
  have X4 : Held W4 Bb 22 #[.slice (some ⟨g, off + h, none⟩) r c2] := by rw [← hW4]; exact HX3.out.1.set 0 _
  have T4 : Held W4 Bt 2 #[.int .i64 t] := by rw [← hW4]; exact (Below.heap_setCell _ _ _ _ hbt).trans HX3.out.2.1
  have A4 : Held W4 Ba 29 (ac.cells Ar nr cr D nd cd) := by rw [← hW4]; exact (Below.heap_setCell _ _ _ _ hba).trans HX3.out.2.2
  have b4 : W4.cell? ⟨Bb, 0, none⟩ = some (.slice (some ⟨g, off + h, none⟩) r c2) := X4.cell 0
  have f4 := X4.frozen 0
  have H4 := Lib.hid (And.intro X4 A4)
  have a4 : W4.cell? ⟨Ba, 2, none⟩ = some (.int .i64 gap) := HA2.out W4 A4
  clear X4 T4 A4 hW4
  gi_wp2
  refine hR.mono ?_
  rintro e W5 (⟨rfl, hJ5, hk5⟩ | ⟨rfl, hJx3⟩)
  ·have X5 : Held W5 Bb 22 #[.slice (some ⟨g, off + h, none⟩) r c2] := hk5.2.1.trans H4.out.1
   have A5 : Held W5 Ba 29 (ac.cells Ar nr cr D nd cd) := hk5.2.2.trans H4.out.2
   have b5 : W5.cell? ⟨Bb, 0, none⟩ = some (.slice (some ⟨g, off + h, none⟩) r c2) := X5.cell 0
   have f5 := X5.frozen 0
   have a5 : W5.cell? ⟨Ba, 2, none⟩ = some (.int .i64 gap) := HA2.out W5 A5
   have HJ5 := Lib.hid hJ5
   clear hJ5 hk5 X5 A5 hy hR
   rcases hcz with hcc | hcc
   ·subst hcc
    gi_wp2
    rw [roundsIn_succ]
    gi_wp2
    simp only [Exit.noGoto]
    go_end0
    exact ⟨⟨_, rfl⟩, Or.inl (HJ.out _ _ _ ⟨_, _, _, rfl⟩ HJ5.out)⟩
   ·have hcn : ¬ (c2 - r = 0) := by omega
    gi_wp2
    rw [roundsIn_succ]
    gi_wp2
    simp only [Exit.noGoto]
    go_end0
    exact ⟨⟨_, rfl⟩, Or.inl (HJ.out _ _ _ ⟨_, _, _, rfl⟩ HJ5.out)⟩
  ·clear hy hR
   gi_wp2
   simp only [Exit.noGoto]
   go_end0
   exact ⟨⟨_, rfl⟩, Or.inr ⟨_, hJx3⟩⟩
 ·clear hy hR
  gi_wp2
  simp only [Exit.noGoto]
  go_end0
  exact ⟨⟨_, rfl⟩, Or.inr ⟨_, hJx3⟩⟩
end Go.Proofs.YtcipleanckeoaaaDoor
