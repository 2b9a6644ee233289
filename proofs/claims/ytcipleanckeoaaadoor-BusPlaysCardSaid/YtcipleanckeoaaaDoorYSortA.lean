/- Pieces in a row; how two are compared; how two ranges change places. -/
import Derived.Test.YtcipleanckeoaaaDoorYTk
import Derived.Test.YtcipleanckeoaaaDoorRows
import Derived.Test.YtcipleanckeoaaaDoorYCommon
import Derived.Lib.Hide
import Derived.BigRegion
import Derived.Deep.Cut
import Derived.Deep.RegionWith
import Derived.Deep.RegionHeld
open List renaming getElem_toArray → zA, getElem_cons_zero → zB, setIfInBounds_toArray → zC, set_cons_succ → zD, set_cons_zero → zE, getElem_cons_succ → zF, length_append → zG, append_assoc → zH, length_pos_iff → zI
set_option maxRecDepth 100000
set_option maxHeartbeats 40000000
namespace Go.Proofs.YtcipleanckeoaaaDoor
open Go.RowKit
attribute [local go_sem] Oper.semAt_some
set_option linter.unusedVariables false
set_option linter.unusedSimpArgs false
structure Pc where
 at_ : Int
 A : Option Addr
 n : Nat
 c : Nat
 idx : Nat
def Pc.v (x : Pc) : Value := .agg #[.int .i64 x.at_, .slice x.A x.n x.c]
def PcRow (W : World) (g : Nat) (xs : List Pc) : Prop :=
 g < W.heap.size ∧ (∀ j, W.frozen? ⟨g, j, none⟩ = false) ∧ ∀ (i : Nat) (x : Pc), xs[i]? = some x → W.cell? ⟨g, i * 2, none⟩ = some (.int .i64 x.at_) ∧ W.cell? ⟨g, i * 2 + 1, none⟩ = some (.slice x.A x.n x.c)
theorem PcRow.up {W W' : World} {g : Nat} {xs : List Pc} (h : PcRow W g xs) (hb : Below W.heap.size W W') : PcRow W' g xs := by
 obtain ⟨h1, h2, h3⟩ := h
 refine ⟨Nat.lt_of_lt_of_le h1 hb.size, fun j => ?_, fun i x hx => ?_⟩
 ·have := h2 j
  unfold World.frozen? at this ⊢
  rw [show W'.heap[(⟨g, j, none⟩ : Addr).block]? = W.heap[(⟨g, j, none⟩ : Addr).block]? from hb.block g h1]
  exact this
 ·obtain ⟨a, b⟩ := h3 i x hx
  exact ⟨(hb.cell (p := ⟨g, i * 2, none⟩) h1).trans a, (hb.cell (p := ⟨g, i * 2 + 1, none⟩) h1).trans b⟩
def Kg (g : Nat) (A B : World) : Prop := Below 0 A B ∧ ∀ k, k ≠ g → k < A.heap.size → B.heap[k]? = A.heap[k]?
theorem Kg.refl (g : Nat) (A : World) : Kg g A A := ⟨Below.refl _ _, fun _ _ _ => rfl⟩
theorem Kg.size {g : Nat} {A B : World} (h : Kg g A B) : A.heap.size ≤ B.heap.size := h.1.size
theorem Kg.trans {g : Nat} {A B C : World} (h : Kg g A B) (k : Kg g B C) : Kg g A C := ⟨h.1.trans k.1, fun j h1 h3 => (k.2 j h1 (by have := h.size; omega)).trans (h.2 j h1 h3)⟩
theorem Kg.of_below {g : Nat} {A B : World} (h : Below A.heap.size A B) : Kg g A B := ⟨h.mono (Nat.zero_le _), fun k _ hk => h.block k hk⟩
theorem Kg.set {g : Nat} {A B : World} (h : Kg g A B) (o : Nat) (v : Value) : Kg g A (B.setCell ⟨g, o, none⟩ v) :=
 ⟨h.1.setCell (p := ⟨g, o, none⟩) (Nat.zero_le _) v, fun k h1 h3 => (Below.heap_setCell B ⟨g, o, none⟩ v k h1).trans (h.2 k h1 h3)⟩
theorem Kg.drewN {g : Nat} {A B : World} (h : Kg g A B) (n : Nat) : Kg g A (B.drewN n) := ⟨below_drewN h.1 n, h.2⟩
theorem Kg.below {g n : Nat} {A B : World} (h : Kg g A B) (h1 : n ≤ g) (h2 : n ≤ A.heap.size) : Below n A B := ⟨h.1.os, h.1.tape, h.1.output, h.1.size, fun k hk => h.2 k (by omega) (by omega)⟩
theorem PcRow.drewN {W : World} {g : Nat} {xs : List Pc} (h : PcRow W g xs) (n : Nat) : PcRow (W.drewN n) g xs := h
theorem PcRow.put {W : World} {g : Nat} {xs : List Pc} (h : PcRow W g xs) (i : Nat) (y : Pc) (hi : i < xs.length) : PcRow ((W.setCell ⟨g, i * 2, none⟩ (.int .i64 y.at_)).setCell ⟨g, i * 2 + 1, none⟩ (.slice y.A y.n y.c)) g (xs.set i y) := by
 obtain ⟨h1, h2, h3⟩ := h
 have hset : ∀ (V : World) (o p : Nat) (v : Value), (V.setCell ⟨g, o, none⟩ v).frozen? ⟨g, p, none⟩ = V.frozen? ⟨g, p, none⟩ := fun V o p v => by
  unfold World.frozen? World.setCell
  simp only [Array.getElem?_modify]
  cases V.heap[g]? with
  | none => simp
  | some o => cases o <;> simp
 have hne : ∀ (V : World) (o p : Nat) (v : Value), o ≠ p → (V.setCell ⟨g, o, none⟩ v).cell? ⟨g, p, none⟩ = V.cell? ⟨g, p, none⟩ := fun V o p v hop =>
  World.cell?_setCell_other _ _ _ _ (by intro e; injection e with e1 e2; exact hop e2)
 refine ⟨by simpa using h1, fun j => by rw [hset, hset]; exact h2 j, fun k z hz => ?_⟩
 by_cases hk : k = i
 ·subst hk
  rw [List.getElem?_set_self hi] at hz
  cases hz
  obtain ⟨x, hx⟩ : ∃ x, xs[k]? = some x := ⟨_, List.getElem?_eq_getElem hi⟩
  obtain ⟨c0, c1⟩ := h3 k x hx
  have f0 := h2 (k * 2)
  have f1 := h2 (k * 2 + 1)
  constructor
  ·rw [hne _ _ _ _ (by omega)]
   exact World.cell?_setCell_same' _ _ _ (by rw [c0]; rfl)
  ·exact World.cell?_setCell_same' _ _ _ (by rw [hne _ _ _ _ (by omega), c1]; rfl)
 ·rw [List.getElem?_set_ne (fun e => hk e.symm)] at hz
  obtain ⟨c0, c1⟩ := h3 k z hz
  exact ⟨((hne _ _ _ _ (by omega)).trans (hne _ _ _ _ (by omega))).trans c0, ((hne _ _ _ _ (by omega)).trans (hne _ _ _ _ (by omega))).trans c1⟩
def cmpI (a b : Int) : Int := if a < b then -1 else if b < a then 1 else 0
theorem isnan_any (a : Int) (w : World) : Calls Tryd.prog 92 #[.int .i64 a] w fun e w' => e = .returned (.bool false) ∧ w = w' := by
 go_in
 go_wp2
 go_ret
 exact ⟨rfl, rfl⟩
theorem compare_any (a b : Int) (w : World) : Calls Tryd.prog 50 #[.int .i64 a, .int .i64 b] w fun e w' => e = .returned (.int .i64 (cmpI a b)) ∧ w = w' := by
 have H := Lib.hid (fun (x : Int) (V : World) => isnan_any x V)
 by_cases h1 : a < b
 ·rw [show cmpI a b = -1 from if_pos h1]
  go_in
  go_wp2_with (go_at_call 92; refine (H.out _ _).mono ?_; rintro e w1 ⟨rfl, rfl⟩)
  go_ret
  exact ⟨rfl, rfl⟩
 ·by_cases h2 : b < a
  ·rw [show cmpI a b = 1 by unfold cmpI; rw [if_neg h1, if_pos h2]]
   go_in
   go_wp2_with (go_at_call 92; refine (H.out _ _).mono ?_; rintro e w1 ⟨rfl, rfl⟩)
   go_ret
   exact ⟨rfl, rfl⟩
  ·rw [show cmpI a b = 0 by unfold cmpI; rw [if_neg h1, if_neg h2]]
   have d1 : decide (a < b) = false := decide_eq_false h1
   have d2 : decide (b < a) = false := decide_eq_false h2
   go_in
   go_wp2_with (go_at_call 92; refine (H.out _ _).mono ?_; rintro e w1 ⟨rfl, rfl⟩)
   go_ret
   exact ⟨rfl, rfl⟩
theorem pcmp_any (x y : Pc) (w : World) : Calls Tryd.prog 49 #[x.v, y.v] w fun e w' => e = .returned (.int .i64 (cmpI x.at_ y.at_)) ∧ Below w.heap.size w w' := by
 have H := Lib.hid (fun (V : World) => compare_any x.at_ y.at_ V)
 obtain ⟨w1, hw1⟩ : ∃ W, (w.alloc (.cells #[.int .i64 x.at_, .slice x.A x.n x.c] 51)).alloc (.cells #[.int .i64 y.at_, .slice y.A y.n y.c] 51) = W := ⟨_, rfl⟩
 have hb1 := zB2 hw1
 have hX : Held w1 w.heap.size 51 #[.int .i64 x.at_, .slice x.A x.n x.c] := by rw [← hw1]; exact (Held.new w _ _).alloc _
 have hY : Held w1 (w.heap.size + 1) 51 #[.int .i64 y.at_, .slice y.A y.n y.c] := by
  rw [← hw1]
  have h := Held.new (w.alloc (.cells #[.int .i64 x.at_, .slice x.A x.n x.c] 51)) 51 #[.int .i64 y.at_, .slice y.A y.n y.c]
  rw [World.size_alloc] at h
  exact h
 have x0 : w1.cell? ⟨w.heap.size, 0, none⟩ = some (.int .i64 x.at_) := hX.cell 0
 have y0 : w1.cell? ⟨w.heap.size + 1, 0, none⟩ = some (.int .i64 y.at_) := hY.cell 0
 have hlt := hY.lt
 clear hX hY
 unfold Pc.v
 go_in
 go_wp2_with (go_at_call 50; refine (H.out _).mono ?_; rintro e w2 ⟨rfl, rfl⟩)
 go_ret
 exact ⟨rfl, hb1⟩
def ltP (x y : Pc) : Prop := x.at_ < y.at_ ∨ (x.at_ = y.at_ ∧ x.idx < y.idx)
theorem ltP.trans {x y z : Pc} (h : ltP x y) (k : ltP y z) : ltP x z := by unfold ltP at *; omega
abbrev SortedP (l : List Pc) : Prop := l.Pairwise ltP
def Older (l r : List Pc) : Prop := ∀ x ∈ l, ∀ y ∈ r, x.idx < y.idx
theorem lt_of_older {x y : Pc} (h : x.idx < y.idx) (k : ¬ y.at_ < x.at_) : ltP x y := by unfold ltP; omega
theorem lt_of_at {x y : Pc} (k : y.at_ < x.at_) : ltP y x := Or.inl k
theorem sorted_mid {A B : List Pc} (hA : SortedP A) (hB : SortedP B) (h : A = [] ∨ B = [] ∨ ∃ x y A' B', A = A' ++ [x] ∧ B = y :: B' ∧ ltP x y) : SortedP (A ++ B) := by
 rw [SortedP, List.pairwise_append]
 refine ⟨hA, hB, fun a ha b hb => ?_⟩
 rcases h with rfl | rfl | ⟨x, y, A', B', rfl, rfl, hxy⟩
 ·cases ha
 ·cases hb
 ·have h1 : a = x ∨ ltP a x := by
   rcases List.mem_append.mp ha with h | h
   ·exact Or.inr ((List.pairwise_append.mp hA).2.2 a h x (List.mem_singleton.mpr rfl))
   ·exact Or.inl (List.mem_singleton.mp h)
  have h2 : b = y ∨ ltP y b := by
   rcases List.mem_cons.mp hb with h | h
   ·exact Or.inl h
   ·exact Or.inr ((List.pairwise_cons.mp hB).1 b h)
  rcases h1 with rfl | h1 <;> rcases h2 with rfl | h2
  ·exact hxy
  ·exact hxy.trans h2
  ·exact h1.trans hxy
  ·exact (h1.trans hxy).trans h2
theorem merge_join {L1 L2 R1 R2 M1 M2 : List Pc} (hL : SortedP (L1 ++ L2)) (hR : SortedP (R1 ++ R2))
  (h1 : L1 = [] ∨ R2 = [] ∨ ∃ x y A' B', L1 = A' ++ [x] ∧ R2 = y :: B' ∧ ltP x y) (h2 : L2 = [] ∨ R1 = [] ∨ ∃ x y A' B', R1 = A' ++ [x] ∧ L2 = y :: B' ∧ ltP x y)
  (p1 : M1.Perm (L1 ++ R1)) (p2 : M2.Perm (L2 ++ R2)) (s1 : SortedP M1) (s2 : SortedP M2) : SortedP (M1 ++ M2) := by
 have a1 := List.pairwise_append.mp hL
 have a2 := List.pairwise_append.mp hR
 have b1 : ∀ x ∈ L1, ∀ y ∈ R2, ltP x y := (List.pairwise_append.mp (sorted_mid a1.1 a2.2.1 h1)).2.2
 have b2 : ∀ x ∈ R1, ∀ y ∈ L2, ltP x y := (List.pairwise_append.mp (sorted_mid a2.1 a1.2.1 (by rcases h2 with h | h | h <;> simp only [h, true_or, or_true]))).2.2
 rw [SortedP, List.pairwise_append]
 refine ⟨s1, s2, fun a ha b hb => ?_⟩
 rcases List.mem_append.mp (p1.mem_iff.mp ha) with h | h <;> rcases List.mem_append.mp (p2.mem_iff.mp hb) with k | k
 ·exact a1.2.2 a h b k
 ·exact b1 a h b k
 ·exact b2 a h b k
 ·exact a2.2.2 a h b k
theorem insert_join {D1 D2 : List Pc} {x : Pc} (hD : SortedP (D1 ++ D2)) (h2 : ∀ y ∈ D2, ltP x y) (h1 : D1 = [] ∨ ∃ A' z, D1 = A' ++ [z] ∧ ltP z x) : SortedP (D1 ++ x :: D2) := by
 have a := List.pairwise_append.mp hD
 refine sorted_mid a.1 (List.pairwise_cons.mpr ⟨h2, a.2.1⟩) ?_
 rcases h1 with h | ⟨A', z, h, hz⟩
 ·exact Or.inl h
 ·exact Or.inr (Or.inr ⟨z, x, A', D2, h, rfl, hz⟩)
theorem set_adj (P T : List Pc) (x y : Pc) : ((P ++ y :: x :: T).set (P.length + 1) y).set P.length x = P ++ x :: y :: T := by
 rw [List.set_append_right _ _ (by omega), Nat.add_sub_cancel_left, List.set_append_right _ _ (by omega), Nat.sub_self]
 rfl
theorem set_adj' (P T : List Pc) (x y : Pc) : ((P ++ y :: x :: T).set P.length x).set (P.length + 1) y = P ++ x :: y :: T := by
 rw [List.set_append_right _ _ (by omega), Nat.sub_self, List.set_append_right _ _ (by omega), Nat.add_sub_cancel_left]
 rfl
theorem get_at (P T : List Pc) (x : Pc) : (P ++ x :: T)[P.length]? = some x := by
 rw [List.getElem?_append_right (by omega), Nat.sub_self]; rfl
theorem get_at1 (P T : List Pc) (x y : Pc) : (P ++ x :: y :: T)[P.length + 1]? = some y := by
 rw [List.getElem?_append_right (by omega), Nat.add_sub_cancel_left]; rfl
def Swp (xs : List Pc) (a b k : Nat) (ys : List Pc) : Prop :=
 ys.length = xs.length ∧ ∀ i : Nat, ys[i]? = if a ≤ i ∧ i < a + k then xs[i + b - a]? else if b ≤ i ∧ i < b + k then xs[i + a - b]? else xs[i]?
theorem Swp.none (xs : List Pc) (a b : Nat) : Swp xs a b 0 xs := ⟨rfl, fun i => by rw [if_neg (by omega), if_neg (by omega)]⟩
theorem Swp.next {xs ys : List Pc} {a b k : Nat} (h : Swp xs a b k ys) (hab : a + k < b) {x y : Pc} (hx : xs[a + k]? = some x) (hy : xs[b + k]? = some y) : Swp xs a b (k + 1) ((ys.set (a + k) y).set (b + k) x) := by
 obtain ⟨hl, hi⟩ := h
 have l1 : a + k < xs.length := (List.getElem?_eq_some_iff.mp hx).1
 have l2 : b + k < xs.length := (List.getElem?_eq_some_iff.mp hy).1
 refine ⟨by simpa using hl, fun i => ?_⟩
 by_cases e2 : i = b + k
 ·subst e2
  rw [List.getElem?_set_self (by simpa [hl] using l2), if_neg (by omega), if_pos (by omega), show b + k + a - b = a + k by omega, hx]
 ·rw [List.getElem?_set_ne (fun e => e2 e.symm)]
  by_cases e1 : i = a + k
  ·subst e1
   rw [List.getElem?_set_self (by omega), if_pos (by omega), show a + k + b - a = b + k by omega, hy]
  ·rw [List.getElem?_set_ne (fun e => e1 e.symm), hi i]
   by_cases c1 : a ≤ i ∧ i < a + k
   ·rw [if_pos c1, if_pos (by omega)]
   ·rw [if_neg c1, if_neg (show ¬(a ≤ i ∧ i < a + (k + 1)) by omega)]
    by_cases c2 : b ≤ i ∧ i < b + k
    ·rw [if_pos c2, if_pos (by omega)]
    ·rw [if_neg c2, if_neg (by omega)]
theorem Swp.get {xs ys : List Pc} {a b k : Nat} (h : Swp xs a b k ys) (hab : a + k < b) {i : Nat} (h1 : i = a + k ∨ i = b + k) : ys[i]? = xs[i]? := by
 rw [h.2 i, if_neg (by omega), if_neg (by omega)]
theorem Swp.whole {P A Q B S ys : List Pc} {n : Nat} (hA : A.length = n) (hB : B.length = n) (h : Swp (P ++ (A ++ (Q ++ (B ++ S)))) P.length (P.length + n + Q.length) n ys) : ys = P ++ (B ++ (Q ++ (A ++ S))) := by
 refine List.ext_getElem? fun i => ?_
 rw [h.2 i]
 simp only [List.getElem?_append, hA, hB]
 by_cases c1 : i < P.length
 ·rw [if_neg (by omega), if_neg (by omega), if_pos c1, if_pos c1]
 ·by_cases c2 : i - P.length < n
  ·rw [if_pos (by omega), if_neg (by omega), if_neg (by omega), if_neg (by omega), if_pos (by omega), if_neg c1, if_pos c2]
   congr 1; omega
  ·by_cases c3 : i - P.length - n < Q.length
   ·rw [if_neg (by omega), if_neg (by omega), if_neg c1, if_neg c2, if_pos c3, if_neg c1, if_neg c2, if_pos c3]
   ·by_cases c4 : i - P.length - n - Q.length < n
    ·rw [if_neg (by omega), if_pos (by omega), if_neg (by omega), if_pos (by omega), if_neg c1, if_neg c2, if_neg c3, if_pos c4]
     congr 1; omega
    ·rw [if_neg (by omega), if_neg (by omega), if_neg c1, if_neg c2, if_neg c3, if_neg c4, if_neg c1, if_neg c2, if_neg c3, if_neg c4]
theorem Kg.drew {g : Nat} {A B : World} (h : Kg g A B) : Kg g A B.drew := ⟨h.1.drew, h.2⟩
theorem swap_any (g n c a b k : Nat) (fv : Value) (xs : List Pc) (w : World) (hR : PcRow w g xs) (hl : xs.length = n) (hn : n ≤ 1000) (hab : a + k ≤ b) (hb : b + k ≤ n) :
  Calls Tryd.prog 156 #[.slice (some ⟨g, 0, none⟩) n c, .int .i64 a, .int .i64 b, .int .i64 k, fv] w fun e w' => e = .returned (.tuple #[]) ∧ ∃ ys, PcRow w' g ys ∧ Swp xs a b k ys ∧ Kg g w w' := by
 have HR := Lib.hid hR
 clear hR
 go_in
 go_wp2_with fail
 go_loopw [10] (fun u wr => ∃ j : Nat, j ≤ k ∧ u = .int .i64 j ∧ ∃ ys, PcRow wr g ys ∧ Swp xs a b j ys ∧ Kg g w wr) (fun u _ => k - (intOf u).toNat)
 case atStart => exact ⟨0, by omega, rfl, xs, HR.out, Swp.none _ _ _, Kg.refl _ _⟩
 case round =>
  obtain ⟨j, hj, rfl, ys, hY, hS, hK⟩ := hrel
  by_cases hjk : j < k
  ·have d1 : decide ((j : Int) < (k : Int)) = true := decide_eq_true (by omega)
   obtain ⟨x, hx⟩ : ∃ x, xs[a + j]? = some x := ⟨_, List.getElem?_eq_getElem (by omega)⟩
   obtain ⟨y, hy⟩ : ∃ y, xs[b + j]? = some y := ⟨_, List.getElem?_eq_getElem (by omega)⟩
   have HN := Lib.hid (hS.next (by omega) hx hy)
   have hx' := (hS.get (by omega) (Or.inl rfl)).trans hx
   have hy' := (hS.get (by omega) (Or.inr rfl)).trans hy
   obtain ⟨i1, hi1⟩ : ∃ i : Nat, a + j = i := ⟨_, rfl⟩
   obtain ⟨i2, hi2⟩ : ∃ i : Nat, b + j = i := ⟨_, rfl⟩
   have e1 : (a : Int) + (j : Int) = (i1 : Int) := by omega
   have e2 : (b : Int) + (j : Int) = (i2 : Int) := by omega
   rw [hi1] at hx' HN
   rw [hi2] at hy' HN
   obtain ⟨cx0, cx1⟩ := hY.2.2 i1 x hx'
   obtain ⟨cy0, cy1⟩ := hY.2.2 i2 y hy'
   have hyl := hS.1
   have g1 : i1 < n := by omega
   have g2 : i2 < n := by omega
   have g3 : i1 ≠ i2 := by omega
   have fx0 := hY.2.1 (i1 * 2)
   have fx1 := hY.2.1 (i1 * 2 + 1)
   have fy0 := hY.2.1 (i2 * 2)
   have fy1 := hY.2.1 (i2 * 2 + 1)
   have HE := Lib.hid (And.intro (PcRow.put (PcRow.put hY i1 y (by omega)) i2 x (by rw [List.length_set]; omega)) hK)
   clear hx hy hx' hy' hS hY hK hi1 hi2
   go_wp2_with fail
   go_region
   go_wp2_with fail
   go_roundw
   case rel => exact ⟨j + 1, by omega, by go_num, _, HE.out.1, HN.out, ((((HE.out.2.set _ _).set _ _).set _ _).set _ _).drew⟩
   case measure => simp [intOf]; omega
  ·have d1 : decide ((j : Int) < (k : Int)) = false := decide_eq_false (by omega)
   obtain rfl : j = k := by omega
   have HE := Lib.hid (And.intro hY (And.intro hS hK))
   clear hY hS hK
   go_wp2_with fail
   go_end0
   exact ⟨rfl, ys, HE.out.1, HE.out.2.1, HE.out.2.2⟩
theorem rotate_any (g n c : Nat) (fv : Value) (P A B S : List Pc) (w : World) (hR : PcRow w g (P ++ (A ++ (B ++ S)))) (hl : (P ++ (A ++ (B ++ S))).length = n) (hn : n ≤ 1000) (hA : A ≠ []) (hB : B ≠ []) :
  Calls Tryd.prog 141 #[.slice (some ⟨g, 0, none⟩) n c, .int .i64 P.length, .int .i64 (P.length + A.length : Nat), .int .i64 (P.length + A.length + B.length : Nat), fv] w fun e w' => e = .returned (.tuple #[]) ∧ PcRow w' g (P ++ (B ++ (A ++ S))) ∧ Kg g w w' := by
 have HR := Lib.hid hR
 have HA := Lib.hid hA
 have HB := Lib.hid hB
 have hAl := List.length_pos_iff.mpr hA
 have hBl := List.length_pos_iff.mpr hB
 simp only [zG] at hl
 have HW := Lib.hid (fun (a b k : Nat) (xs : List Pc) (V : World) h1 h2 h3 h4 => swap_any g n c a b k fv xs V h1 h2 hn h3 h4)
 obtain ⟨m, hm⟩ : ∃ m, P.length + A.length = m := ⟨_, rfl⟩
 obtain ⟨e, he⟩ : ∃ e, m + B.length = e := ⟨_, rfl⟩
 have e1 : (m : Int) - (P.length : Int) = (A.length : Int) := by omega
 have e2 : (e : Int) - (m : Int) = (B.length : Int) := by omega
 rw [hm, he]
 clear hR hA hB
 go_in
 go_wp2_with fail
 go_loopw [10, 11] (fun u v wr => ∃ (i j p : Nat) (P' A' B' S' : List Pc), u = .int .i64 i ∧ v = .int .i64 j ∧ A'.length = i ∧ B'.length = j ∧ P'.length = p ∧ 0 < i ∧ 0 < j ∧ p + i = m ∧ p + (i + (j + S'.length)) = n ∧ PcRow wr g (P' ++ (A' ++ (B' ++ S'))) ∧ P' ++ (B' ++ (A' ++ S')) = P ++ (B ++ (A ++ S)) ∧ Kg g w wr) (fun u v _ => (intOf u).toNat + (intOf v).toNat)
 case atStart => exact ⟨A.length, B.length, P.length, P, A, B, S, rfl, rfl, rfl, rfl, rfl, hAl, hBl, hm, hl, HR.out, rfl, Kg.refl _ _⟩
 case round =>
  obtain ⟨i, j, p, P', A', B', S', rfl, rfl, la, lb, lp, hi, hj, hpm, hlen, hrow, heq, hK⟩ := hrel
  have HE := Lib.hid heq
  have HK := Lib.hid hK
  have f1 : (m : Int) - (i : Int) = (p : Int) := by omega
  rcases Nat.lt_trichotomy i j with h | h | h
  ·have d1 : ((i : Int) != (j : Int)) = true := by simp; omega
   have d2 : decide ((i : Int) > (j : Int)) = false := decide_eq_false (by omega)
   obtain ⟨B1, B2, rfl, hB2⟩ : ∃ B1 B2, B' = B1 ++ B2 ∧ B2.length = i := ⟨B'.take (j - i), B'.drop (j - i), (List.take_append_drop _ _).symm, by rw [List.length_drop]; omega⟩
   rw [zG] at lb
   obtain ⟨q, hq⟩ : ∃ q, p + i + B1.length = q := ⟨_, rfl⟩
   obtain ⟨s, hs⟩ : ∃ s, m + j = s := ⟨_, rfl⟩
   have f2 : (m : Int) + (j : Int) = (s : Int) := by omega
   have f3 : (s : Int) - (i : Int) = (q : Int) := by omega
   have f4 : (j : Int) - (i : Int) = (B1.length : Int) := by omega
   have HC := Lib.hid (HW.out p q i (P' ++ (A' ++ (B1 ++ (B2 ++ S')))) wr (by simpa only [zH] using hrow) (by simp only [zG]; omega) (by omega) (by omega))
   have HZ := Lib.hid (fun (ys : List Pc) (hy : Swp (P' ++ (A' ++ (B1 ++ (B2 ++ S')))) p q i ys) => Swp.whole (P := P') (A := A') (Q := B1) (B := B2) (S := S') (n := i) la hB2 (by rw [lp, hq]; exact hy))
   clear hrow hK heq
   go_wp2_with (go_at_call 156; refine HC.out.mono ?_; rintro e w1 ⟨rfl, ys, hy, hsw, hk1⟩; have hys := HZ.out ys hsw; subst hys; have HY := Lib.hid (And.intro hy hk1); clear hy hk1 hsw)
   go_roundw
   case rel => exact ⟨i, B1.length, p, P', B2, B1, A' ++ S', by go_num, by go_num, hB2, rfl, lp, hi, by omega, hpm, by rw [zG]; omega, HY.out.1, by rw [← HE.out]; simp only [zH], HK.out.trans HY.out.2⟩
   case measure => simp [intOf]; omega
  ·subst h
   have d1 : ((i : Int) != (i : Int)) = false := by simp
   have HC := Lib.hid (HW.out p m i (P' ++ (A' ++ (B' ++ S'))) wr hrow (by simp only [zG]; omega) (by omega) (by omega))
   have HZ := Lib.hid (fun (ys : List Pc) (hy : Swp (P' ++ (A' ++ (B' ++ S'))) p m i ys) => Swp.whole (P := P') (A := A') (Q := []) (B := B') (S := S') (n := i) la lb (by rw [lp, List.length_nil, Nat.add_zero, hpm]; exact hy))
   clear hrow hK heq
   go_wp2_with (go_at_call 156; refine HC.out.mono ?_; rintro e w1 ⟨rfl, ys, hy, hsw, hk1⟩; have hys := HZ.out ys hsw; subst hys; have HY := Lib.hid (And.intro hy hk1); clear hy hk1 hsw)
   go_end0
   exact ⟨rfl, by rw [← HE.out]; exact HY.out.1, HK.out.trans HY.out.2⟩
  ·have d1 : ((i : Int) != (j : Int)) = true := by simp; omega
   have d2 : decide ((i : Int) > (j : Int)) = true := decide_eq_true (by omega)
   obtain ⟨A1, A2, rfl, hA1⟩ : ∃ A1 A2, A' = A1 ++ A2 ∧ A1.length = j := ⟨A'.take j, A'.drop j, (List.take_append_drop _ _).symm, by rw [List.length_take]; omega⟩
   rw [zG] at la
   have f4 : (i : Int) - (j : Int) = (A2.length : Int) := by omega
   have HC := Lib.hid (HW.out p m j (P' ++ (A1 ++ (A2 ++ (B' ++ S')))) wr (by simpa only [zH] using hrow) (by simp only [zG]; omega) (by omega) (by omega))
   have HZ := Lib.hid (fun (ys : List Pc) (hy : Swp (P' ++ (A1 ++ (A2 ++ (B' ++ S')))) p m j ys) => Swp.whole (P := P') (A := A1) (Q := A2) (B := B') (S := S') (n := j) hA1 lb (by rw [lp, show p + j + A2.length = m by omega]; exact hy))
   clear hrow hK heq
   go_wp2_with (go_at_call 156; refine HC.out.mono ?_; rintro e w1 ⟨rfl, ys, hy, hsw, hk1⟩; have hys := HZ.out ys hsw; subst hys; have HY := Lib.hid (And.intro hy hk1); clear hy hk1 hsw)
   go_roundw
   case rel => exact ⟨A2.length, j, p + j, P' ++ B', A2, A1, S', by go_num, by go_num, rfl, hA1, by rw [zG]; omega, by omega, hj, by omega, by omega, by simpa only [zH] using HY.out.1, by rw [← HE.out]; simp only [zH], HK.out.trans HY.out.2⟩
   case measure => simp [intOf]; omega
theorem cmpI_neg {a b : Int} (h : a < b) : cmpI a b = -1 := if_pos h
theorem cmpI_pos {a b : Int} (h : ¬ a < b) : decide (cmpI a b < 0) = false := by unfold cmpI; rw [if_neg h]; split <;> decide
theorem insert_any (g n c : Nat) (P M S : List Pc) (w : World) (hR : PcRow w g (P ++ (M ++ S))) (hl : (P ++ (M ++ S)).length = n) (hn : n ≤ 1000) (hM : M.Pairwise (fun x y => x.idx < y.idx)) :
  Calls Tryd.prog 120 #[.slice (some ⟨g, 0, none⟩) n c, .int .i64 P.length, .int .i64 (P.length + M.length : Nat), .func (.func 49) #[] #[]] w fun e w' => e = .returned (.tuple #[]) ∧ ∃ M', PcRow w' g (P ++ (M' ++ S)) ∧ M'.Perm M ∧ SortedP M' ∧ Kg g w w' := by
 have HR := Lib.hid hR
 have HC := Lib.hid (fun (x y : Pc) (V : World) => pcmp_any x y V)
 simp only [zG] at hl
 obtain ⟨p, hp⟩ : ∃ p, P.length = p := ⟨_, rfl⟩
 obtain ⟨b, hb⟩ : ∃ b, p + M.length = b := ⟨_, rfl⟩
 rw [hp] at hl ⊢
 rw [hb]
 clear hR
 cases M with
 | nil =>
  simp only [List.length_nil, Nat.add_zero] at hb
  subst hb
  go_in
  go_wp2_with fail
  refine wp_loop_rounds 1 ?_
  rw [rounds_succ]
  go_wp2_with fail
  go_end0
  exact ⟨rfl, [], HR.out, List.Perm.refl _, List.Pairwise.nil, Kg.refl _ _⟩
 | cons m0 M =>
 have hM1 := List.pairwise_cons.mp hM
 have HM1 := Lib.hid hM1
 simp only [List.length_cons] at hb hl
 clear hM hM1
 go_in
 go_wp2_with fail
 go_loopw [8] (fun u wr => ∃ (i : Nat) (D R : List Pc), u = .int .i64 i ∧ p + D.length = i ∧ p + (D.length + R.length) = b ∧ PcRow wr g (P ++ (D ++ (R ++ S))) ∧ (D ++ R).Perm (m0 :: M) ∧ SortedP D ∧ R.Pairwise (fun x y => x.idx < y.idx) ∧ Older D R ∧ Kg g w wr) (fun u _ => b - (intOf u).toNat)
 case atStart => exact ⟨p + 1, [m0], M, by go_num, by simp, by simp only [List.length_cons, List.length_nil]; omega, HR.out, List.Perm.refl _, List.pairwise_singleton _ _, HM1.out.2, (fun x hx y hy => by rw [List.mem_singleton.mp hx]; exact HM1.out.1 y hy), Kg.refl _ _⟩
 case round =>
  obtain ⟨i, D, R, rfl, hi, hib, hrow, hperm, hsort, hidx, hold, hK⟩ := hrel
  cases R with
  | nil =>
   simp only [List.length_nil, Nat.add_zero, List.append_nil] at hib hperm hrow
   have d1 : decide ((i : Int) < (b : Int)) = false := decide_eq_false (by omega)
   have HE := Lib.hid (And.intro hrow (And.intro hperm (And.intro hsort hK)))
   clear hrow hperm hsort hidx hold hK
   go_wp2_with fail
   go_end0
   exact ⟨rfl, D, HE.out.1, HE.out.2.1, HE.out.2.2.1, HE.out.2.2.2⟩
  | cons x R =>
   simp only [List.length_cons] at hib
   have d1 : decide ((i : Int) < (b : Int)) = true := decide_eq_true (by omega)
   have d1n : decide (i < b) = true := decide_eq_true (by omega)
   have HE := Lib.hid (And.intro hperm (And.intro hsort (And.intro (List.pairwise_cons.mp hidx) (And.intro hold hK))))
   have HR1 := Lib.hid hrow
   clear hrow hperm hsort hidx hold hK
   go_wp2_with fail
   go_loopw [9] (fun u wj => ∃ (j : Nat) (D1 D2 : List Pc), u = .int .i64 j ∧ p + D1.length = j ∧ D = D1 ++ D2 ∧ PcRow wj g (P ++ (D1 ++ (x :: (D2 ++ (R ++ S))))) ∧ (∀ y ∈ D2, ltP x y) ∧ Kg g wr wj) (fun u _ => (intOf u).toNat)
   case atStart => exact ⟨i, D, [], rfl, hi, by simp, by simpa using HR1.out, (fun y hy => by cases hy), Kg.refl _ _⟩
   case round =>
    obtain ⟨j, D1, D2, rfl, hj, hD, hrow, hlt, hk⟩ := hrel
    rcases List.eq_nil_or_concat D1 with h0 | ⟨D0, z, h0⟩
    ·subst h0
     simp only [List.length_nil, Nat.add_zero, List.nil_append] at hj hD hrow
     subst hj hD
     have d2 : decide ((p : Int) > (p : Int)) = false := decide_eq_false (by omega)
     have HF := Lib.hid (And.intro hrow (And.intro hlt hk))
     clear hrow hlt hk
     go_wp2_with fail
     go_region
     go_wp2_with fail
     go_roundw
     case rel =>
      have hq := HE.out
      have hs : SortedP (x :: D) := insert_join (D1 := []) hq.2.1 HF.out.2.1 (Or.inl rfl)
      exact ⟨i + 1, x :: D, R, by go_num, by simp only [List.length_cons]; omega, by simp only [List.length_cons]; omega, HF.out.1, (by rw [List.cons_append]; exact (List.perm_middle.symm.trans hq.1)), hs, hq.2.2.1.2,
       (fun y hy z hz => by rcases List.mem_cons.mp hy with h | h; rw [h]; exact hq.2.2.1.1 z hz; exact hq.2.2.2.1 y h z (List.mem_cons_of_mem _ hz)), hq.2.2.2.2.trans HF.out.2.2.drew⟩
     case measure => simp [intOf]; omega
    ·rw [List.concat_eq_append] at h0
     subst h0
     rw [zG] at hj
     simp only [List.length_cons, List.length_nil] at hj
     have hrow' : PcRow wr g (P ++ (D0 ++ (z :: (x :: (D2 ++ (R ++ S)))))) := by simpa only [zH, List.cons_append, List.nil_append, List.concat_eq_append] using hrow
     obtain ⟨j0, hj0⟩ : ∃ j0, p + D0.length = j0 := ⟨_, rfl⟩
     have hjj : j = j0 + 1 := by omega
     have hz1 : (P ++ (D0 ++ (z :: (x :: (D2 ++ (R ++ S))))))[j0]? = some z := by
      have := get_at (P ++ D0) (x :: (D2 ++ (R ++ S))) z
      rwa [zG, hp, hj0, zH] at this
     have hx1 : (P ++ (D0 ++ (z :: (x :: (D2 ++ (R ++ S))))))[j]? = some x := by
      rw [hjj]
      have := get_at1 (P ++ D0) (D2 ++ (R ++ S)) z x
      rwa [zG, hp, hj0, zH] at this
     obtain ⟨cz0, cz1⟩ := hrow'.2.2 j0 z hz1
     obtain ⟨cx0, cx1⟩ := hrow'.2.2 j x hx1
     have f1 : (j : Int) - 1 = (j0 : Int) := by omega
     have d2 : decide ((p : Int) < (j : Int)) = true := decide_eq_true (by omega)
     have hgl : g < wr.heap.size := hrow'.1
     have d4 : decide (p < j) = true := decide_eq_true (by omega)
     have d5 : p < j := by omega
     have hjn : j < n := by have := congrArg List.length hD; simp only [zG, List.length_cons, List.length_nil] at this; omega
     have d7 : j0 < n := by omega
     have d6 : IntKind.i64.wrap (j0 : Int) = (j0 : Int) := by rw [IntKind.wrap_i64]; omega
     have hzx : z.idx < x.idx := HE.out.2.2.2.1 z (by rw [hD]; simp) x (List.mem_cons_self ..)
     have HXR := Lib.hid hrow'
     have HCx := Lib.hid (HC.out x z)
     have HF := Lib.hid (And.intro hlt (And.intro hk hzx))
     have HDe := Lib.hid hD
     have HG := Lib.hid (And.intro hz1 hx1)
     have HJ := Lib.hid hjj
     unfold Pc.v at HCx
     have g0 : j0 < j := by omega
     clear hrow hrow' hlt hk hD hz1 hx1 hzx hjj
     by_cases hc : x.at_ < z.at_
     ·rw [cmpI_neg hc] at HCx
      go_wp2_with fail
      obtain ⟨wd4, hwd4⟩ : ∃ W : World, wr.drew = W := ⟨_, rfl⟩
      have hS := zB3 hwd4
      refine wp_region_held (S := Below wr.heap.size wr) (by kernel_rfl) ?_
      change wpAnyH _ _ _ _ _ _ _ _ wr.drew
      rw [hwd4]
      clear hwd4
      refine zU 0 rfl hS ?_
      refine zU 1 rfl hS ?_
      refine zU 2 rfl hS ?_
      refine zU 3 rfl hS ?_
      refine zU 4 rfl hS ?_
      refine zU 5 rfl hS ?_
      refine zU 6 rfl hS ?_
      refine zU 7 rfl hS ?_
      refine zU 8 rfl hS ?_ (hy := fun W hH => by
       have q0 := (hH.cell (p := ⟨g, j0 * 2, none⟩) hgl).trans cz0
       have q1 := (hH.cell (p := ⟨g, j0 * 2 + 1, none⟩) hgl).trans cz1
       have q2 := (hH.cell (p := ⟨g, j * 2, none⟩) hgl).trans cx0
       have q3 := (hH.cell (p := ⟨g, j * 2 + 1, none⟩) hgl).trans cx1
       go_simp
       with_reducible rfl)
      refine zU 9 rfl hS ?_
      refine zU 10 rfl hS ?_
      refine zU 11 rfl hS ?_
      refine zU 12 rfl hS ?_
      refine zU 13 rfl hS ?_ (hy := fun W hH => by
       have q0 := (hH.cell (p := ⟨g, j0 * 2, none⟩) hgl).trans cz0
       have q1 := (hH.cell (p := ⟨g, j0 * 2 + 1, none⟩) hgl).trans cz1
       have q2 := (hH.cell (p := ⟨g, j * 2, none⟩) hgl).trans cx0
       have q3 := (hH.cell (p := ⟨g, j * 2 + 1, none⟩) hgl).trans cx1
       go_simp
       with_reducible rfl)
      refine zR 14 rfl (fun K' hK' => ?_)
      go_simp
      refine (HCx.out _).mono ?_
      rintro e w1 ⟨rfl, hb1⟩
      have hS1 := hS.trans (hb1.mono hS.size)
      go_simp
      refine hK'.out _ _ hS1 (fun hS => ?_)
      clear hK' K'
      refine zU 15 rfl hS ?_
      refine zU 16 rfl hS ?_
      refine wpAnyH_done (by kernel_rfl) ?_ _
      have hrow1 := HXR.out.up hS
      obtain ⟨cz0, cz1⟩ := hrow1.2.2 j0 z HG.out.1
      obtain ⟨cx0, cx1⟩ := hrow1.2.2 j x HG.out.2
      have fz0 := hrow1.2.1 (j0 * 2)
      have fz1 := hrow1.2.1 (j0 * 2 + 1)
      have fx0 := hrow1.2.1 (j * 2)
      have fx1 := hrow1.2.1 (j * 2 + 1)
      have hset : ((P ++ (D0 ++ (z :: (x :: (D2 ++ (R ++ S)))))).set j z).set j0 x = P ++ (D0 ++ (x :: (z :: (D2 ++ (R ++ S))))) := by
       have := set_adj (P ++ D0) (D2 ++ (R ++ S)) x z
       rw [zG, hp, hj0, ← HJ.out] at this
       simpa only [zH] using this
      have HP := Lib.hid (PcRow.put (PcRow.put hrow1 j z (List.getElem?_eq_some_iff.mp HG.out.2).1) j0 x (by rw [List.length_set]; exact (List.getElem?_eq_some_iff.mp HG.out.1).1))
      rw [hset] at HP
      have HKs := Lib.hid (HF.out.2.1.trans (Kg.of_below hS))
      clear hset hrow1 hS d6
      go_wp2_with fail
      go_region
      go_wp2_with fail
      go_roundw
      case rel =>
       exact ⟨j0, D0, z :: D2, by go_num, hj0, by rw [HDe.out]; simp, HP.out, (fun y hy => by rcases List.mem_cons.mp hy with h | h; rw [h]; exact lt_of_at hc; exact HF.out.1 y h),
        ((((HKs.out.set _ _).set _ _).set _ _).set _ _).drew⟩
      case measure => simp [intOf]; omega
     ·have HCp := Lib.hid (cmpI_pos hc)
      obtain ⟨cv, hcv⟩ : ∃ v, cmpI x.at_ z.at_ = v := ⟨_, rfl⟩
      rw [hcv] at HCx HCp
      have d3 := HCp.out
      go_wp2_with fail
      obtain ⟨wd4, hwd4⟩ : ∃ W : World, wr.drew = W := ⟨_, rfl⟩
      have hS := zB3 hwd4
      refine wp_region_held (S := Below wr.heap.size wr) (by kernel_rfl) ?_
      change wpAnyH _ _ _ _ _ _ _ _ wr.drew
      rw [hwd4]
      clear hwd4
      refine zU 0 rfl hS ?_
      refine zU 1 rfl hS ?_
      refine zU 2 rfl hS ?_
      refine zU 3 rfl hS ?_
      refine zU 4 rfl hS ?_
      refine zU 5 rfl hS ?_
      refine zU 6 rfl hS ?_
      refine zU 7 rfl hS ?_
      refine zU 8 rfl hS ?_ (hy := fun W hH => by
       have q0 := (hH.cell (p := ⟨g, j0 * 2, none⟩) hgl).trans cz0
       have q1 := (hH.cell (p := ⟨g, j0 * 2 + 1, none⟩) hgl).trans cz1
       have q2 := (hH.cell (p := ⟨g, j * 2, none⟩) hgl).trans cx0
       have q3 := (hH.cell (p := ⟨g, j * 2 + 1, none⟩) hgl).trans cx1
       go_simp
       with_reducible rfl)
      refine zU 9 rfl hS ?_
      refine zU 10 rfl hS ?_
      refine zU 11 rfl hS ?_
      refine zU 12 rfl hS ?_
      refine zU 13 rfl hS ?_ (hy := fun W hH => by
       have q0 := (hH.cell (p := ⟨g, j0 * 2, none⟩) hgl).trans cz0
       have q1 := (hH.cell (p := ⟨g, j0 * 2 + 1, none⟩) hgl).trans cz1
       have q2 := (hH.cell (p := ⟨g, j * 2, none⟩) hgl).trans cx0
       have q3 := (hH.cell (p := ⟨g, j * 2 + 1, none⟩) hgl).trans cx1
       go_simp
       with_reducible rfl)
      refine zR 14 rfl (fun K' hK' => ?_)
      go_simp
      refine (HCx.out _).mono ?_
      rintro e w1 ⟨rfl, hb1⟩
      have hS1 := hS.trans (hb1.mono hS.size)
      go_simp
      refine hK'.out _ _ hS1 (fun hS => ?_)
      clear hK' K'
      refine zU 15 rfl hS ?_
      refine zU 16 rfl hS ?_
      refine wpAnyH_done (by kernel_rfl) ?_ _
      have HP := Lib.hid (And.intro (HXR.out.up hS) (HF.out.2.1.trans (Kg.of_below hS)))
      clear hS
      go_wp2_with fail
      go_roundw
      case rel =>
       have hq := HE.out
       have hs : SortedP (D0 ++ [z] ++ x :: D2) := insert_join (D1 := D0 ++ [z]) (by rw [← HDe.out]; exact hq.2.1) HF.out.1 (Or.inr ⟨D0, z, rfl, lt_of_older HF.out.2.2 (by omega)⟩)
       exact ⟨i + 1, D0 ++ [z] ++ x :: D2, R, by go_num, by have := congrArg List.length HDe.out; simp only [zG, List.length_cons] at this ⊢; omega, by have := congrArg List.length HDe.out; simp only [zG, List.length_cons] at this ⊢; omega,
        (by simpa only [zH, List.cons_append, List.nil_append] using HP.out.1), (by refine List.Perm.trans ?_ hq.1; rw [HDe.out]; simp only [zH, List.cons_append, List.nil_append]; exact List.Perm.append_left _ (List.Perm.cons _ (List.perm_middle.symm))), hs, hq.2.2.1.2,
        (fun y hy v hv => by
         rcases List.mem_append.mp hy with h | h
         ·exact hq.2.2.2.1 y (by rw [HDe.out]; exact List.mem_append_left _ h) v (List.mem_cons_of_mem _ hv)
         ·rcases List.mem_cons.mp h with h | h
          ·rw [h]; exact hq.2.2.1.1 v hv
          ·exact hq.2.2.2.1 y (by rw [HDe.out]; exact List.mem_append_right _ h) v (List.mem_cons_of_mem _ hv)), hq.2.2.2.2.trans HP.out.2⟩
      case measure => simp [intOf]; omega
def SymPost (g : Nat) (P L R S : List Pc) (w : World) (e : Ending) (w' : World) : Prop := e = .returned (.tuple #[]) ∧ ∃ M, PcRow w' g (P ++ (M ++ S)) ∧ M.Perm (L ++ R) ∧ SortedP M ∧ Kg g w w'
theorem half_of {i j : Nat} (h : i < j) : i ≤ (i + j) / 2 ∧ (i + j) / 2 < j := by omega
theorem get_in {P L T : List Pc} {i : Nat} {z : Pc} (h : L[i]? = some z) : (P ++ (L ++ T))[P.length + i]? = some z := by
 rw [List.getElem?_append_right (by omega), Nat.add_sub_cancel_left, List.getElem?_append_left (List.getElem?_eq_some_iff.mp h).1, h]
theorem last_take {L : List Pc} {k : Nat} {z : Pc} (h : L[k]? = some z) : L.take (k + 1) = L.take k ++ [z] := by rw [List.take_add_one, h]; rfl
theorem drop_cons {L : List Pc} {k : Nat} {z : Pc} (h : L[k]? = some z) : L.drop k = z :: L.drop (k + 1) := by
 obtain ⟨hk, rfl⟩ := List.getElem?_eq_some_iff.mp h
 exact List.drop_eq_getElem_cons hk
theorem sym_1 (g n c : Nat) (P : List Pc) (x : Pc) (R S : List Pc) (w : World) (hR : PcRow w g (P ++ (x :: (R ++ S)))) (hl : P.length + (R.length + S.length + 1) = n) (hn : n ≤ 1000) (hr : R ≠ []) (hs : SortedP R) (ho : Older [x] R) :
  Calls Tryd.prog 121 #[.slice (some ⟨g, 0, none⟩) n c, .int .i64 P.length, .int .i64 (P.length + 1 : Nat), .int .i64 (P.length + 1 + R.length : Nat), .func (.func 49) #[] #[]] w (SymPost g P [x] R S w) := by
 have HR := Lib.hid hR
 have HS := Lib.hid (And.intro hs ho)
 have HC := Lib.hid (fun (y : Pc) (V : World) => pcmp_any y x V)
 have hrl := List.length_pos_iff.mpr hr
 have hgl0 := hR.1
 have HX0 := Lib.hid (hR.2.2 P.length x (get_at P _ x))
 obtain ⟨a, ha⟩ : ∃ a, P.length = a := ⟨_, rfl⟩
 obtain ⟨m, hm⟩ : ∃ m, a + 1 = m := ⟨_, rfl⟩
 obtain ⟨b, hb⟩ : ∃ b, m + R.length = b := ⟨_, rfl⟩
 have HRow := Lib.hid (fun (h : Nat) (y : Pc) (hy : R[h]? = some y) => hR.2.2 (m + h) y (by
  have := get_in (P := P ++ [x]) (T := S) hy
  rw [zG, List.length_singleton, ha, hm] at this
  simpa only [zH, List.cons_append, List.nil_append] using this))
 rw [ha] at hl HX0
 rw [ha, hm, hb]
 have e1 : (m : Int) - (a : Int) = 1 := by omega
 unfold Pc.v at HC
 clear hR hs ho hr
 go_in
 go_wp2_with fail
 go_loopw [10, 11] (fun u v wr => ∃ i j : Nat, u = .int .i64 i ∧ v = .int .i64 j ∧ m ≤ i ∧ i ≤ j ∧ j ≤ b ∧ (i = m ∨ ∃ y, R[i - 1 - m]? = some y ∧ y.at_ < x.at_) ∧ (j = b ∨ ∃ y, R[j - m]? = some y ∧ x.at_ ≤ y.at_) ∧ Below w.heap.size w wr) (fun u v _ => (intOf v).toNat - (intOf u).toNat)
 case atStart => exact ⟨m, b, rfl, rfl, by omega, by omega, by omega, Or.inl rfl, Or.inl rfl, Below.refl _ _⟩
 case round =>
  obtain ⟨i, j, rfl, rfl, hi, hij, hj, hlo, hhi, hB⟩ := hrel
  by_cases hlt : i < j
  ·have d1 : decide ((i : Int) < (j : Int)) = true := decide_eq_true (by omega)
   have d1n : decide (i < j) = true := decide_eq_true (by omega)
   obtain ⟨h1, h2⟩ := half_of hlt
   obtain ⟨h, hh⟩ : ∃ h, (i + j) / 2 = h := ⟨_, rfl⟩
   rw [hh] at h1 h2
   obtain ⟨y, hy⟩ : ∃ y, R[h - m]? = some y := ⟨_, List.getElem?_eq_getElem (by omega)⟩
   have hc := HRow.out (h - m) y hy
   rw [show m + (h - m) = h by omega] at hc
   have hgl : g < wr.heap.size := Nat.lt_of_lt_of_le hgl0 hB.size
   have cy0 := (hB.cell (p := ⟨g, h * 2, none⟩) hgl0).trans hc.1
   have cy1 := (hB.cell (p := ⟨g, h * 2 + 1, none⟩) hgl0).trans hc.2
   have cx0 := (hB.cell (p := ⟨g, a * 2, none⟩) hgl0).trans HX0.out.1
   have cx1 := (hB.cell (p := ⟨g, a * 2 + 1, none⟩) hgl0).trans HX0.out.2
   have hhI : ((i : Int) + (j : Int)) / 2 = (h : Int) := by omega
   have hhn : h < n := by omega
   have han : a < n := by omega
   have HL := Lib.hid (And.intro hlo (And.intro hhi (And.intro hB hy)))
   have HCy := Lib.hid (HC.out y)
   clear hlo hhi hB hh hc hy
   by_cases hq : y.at_ < x.at_
   ·rw [cmpI_neg hq] at HCy
    go_wp2_with fail
    obtain ⟨wd5, hwd5⟩ : ∃ W : World, wr.drew = W := ⟨_, rfl⟩
    have hS := zB3 hwd5
    refine wp_region_held (S := Below wr.heap.size wr) (by kernel_rfl) ?_
    change wpAnyH _ _ _ _ _ _ _ _ wr.drew
    rw [hwd5]
    clear hwd5
    refine zU 0 rfl hS ?_
    refine zU 1 rfl hS ?_
    refine zU 2 rfl hS ?_
    refine zU 3 rfl hS ?_
    refine zU 4 rfl hS ?_ (hy := fun W hH => by
     have q0 := (hH.cell (p := ⟨g, a * 2, none⟩) hgl).trans cx0
     have q1 := (hH.cell (p := ⟨g, a * 2 + 1, none⟩) hgl).trans cx1
     have q2 := (hH.cell (p := ⟨g, h * 2, none⟩) hgl).trans cy0
     have q3 := (hH.cell (p := ⟨g, h * 2 + 1, none⟩) hgl).trans cy1
     go_simp
     with_reducible rfl)
    refine zU 5 rfl hS ?_
    refine zU 6 rfl hS ?_
    refine zU 7 rfl hS ?_
    refine zU 8 rfl hS ?_ (hy := fun W hH => by
     have q0 := (hH.cell (p := ⟨g, a * 2, none⟩) hgl).trans cx0
     have q1 := (hH.cell (p := ⟨g, a * 2 + 1, none⟩) hgl).trans cx1
     have q2 := (hH.cell (p := ⟨g, h * 2, none⟩) hgl).trans cy0
     have q3 := (hH.cell (p := ⟨g, h * 2 + 1, none⟩) hgl).trans cy1
     go_simp
     with_reducible rfl)
    refine zR 9 rfl (fun K' hK' => ?_)
    go_simp
    refine (HCy.out _).mono ?_
    rintro e w1 ⟨rfl, hb1⟩
    have hS1 := hS.trans (hb1.mono hS.size)
    go_simp
    refine hK'.out _ _ hS1 (fun hS => ?_)
    clear hK' K'
    refine zU 10 rfl hS ?_
    refine wpAnyH_done (by kernel_rfl) ?_ _
    have HB1 := Lib.hid (HL.out.2.2.1.trans (hS.mono HL.out.2.2.1.size))
    clear hS
    go_wp2_with fail
    go_roundw
    case rel => exact ⟨h + 1, j, by go_num, by go_num, by omega, by omega, hj, Or.inr ⟨y, by rw [show h + 1 - 1 - m = h - m by omega]; exact HL.out.2.2.2, hq⟩, HL.out.2.1, HB1.out⟩
    case measure => simp [intOf]; omega
   ·have d3 := cmpI_pos hq
    obtain ⟨cv, hcv⟩ : ∃ v, cmpI y.at_ x.at_ = v := ⟨_, rfl⟩
    rw [hcv] at HCy d3
    clear hcv
    go_wp2_with fail
    obtain ⟨wd5, hwd5⟩ : ∃ W : World, wr.drew = W := ⟨_, rfl⟩
    have hS := zB3 hwd5
    refine wp_region_held (S := Below wr.heap.size wr) (by kernel_rfl) ?_
    change wpAnyH _ _ _ _ _ _ _ _ wr.drew
    rw [hwd5]
    clear hwd5
    refine zU 0 rfl hS ?_
    refine zU 1 rfl hS ?_
    refine zU 2 rfl hS ?_
    refine zU 3 rfl hS ?_
    refine zU 4 rfl hS ?_ (hy := fun W hH => by
     have q0 := (hH.cell (p := ⟨g, a * 2, none⟩) hgl).trans cx0
     have q1 := (hH.cell (p := ⟨g, a * 2 + 1, none⟩) hgl).trans cx1
     have q2 := (hH.cell (p := ⟨g, h * 2, none⟩) hgl).trans cy0
     have q3 := (hH.cell (p := ⟨g, h * 2 + 1, none⟩) hgl).trans cy1
     go_simp
     with_reducible rfl)
    refine zU 5 rfl hS ?_
    refine zU 6 rfl hS ?_
    refine zU 7 rfl hS ?_
    refine zU 8 rfl hS ?_ (hy := fun W hH => by
     have q0 := (hH.cell (p := ⟨g, a * 2, none⟩) hgl).trans cx0
     have q1 := (hH.cell (p := ⟨g, a * 2 + 1, none⟩) hgl).trans cx1
     have q2 := (hH.cell (p := ⟨g, h * 2, none⟩) hgl).trans cy0
     have q3 := (hH.cell (p := ⟨g, h * 2 + 1, none⟩) hgl).trans cy1
     go_simp
     with_reducible rfl)
    refine zR 9 rfl (fun K' hK' => ?_)
    go_simp
    refine (HCy.out _).mono ?_
    rintro e w1 ⟨rfl, hb1⟩
    have hS1 := hS.trans (hb1.mono hS.size)
    go_simp
    refine hK'.out _ _ hS1 (fun hS => ?_)
    clear hK' K'
    refine zU 10 rfl hS ?_
    refine wpAnyH_done (by kernel_rfl) ?_ _
    have HB1 := Lib.hid (HL.out.2.2.1.trans (hS.mono HL.out.2.2.1.size))
    clear hS
    go_wp2_with fail
    go_roundw
    case rel => exact ⟨i, h, by go_num, by go_num, hi, by omega, by omega, HL.out.1, Or.inr ⟨y, HL.out.2.2.2, by omega⟩, HB1.out⟩
    case measure => simp [intOf]; omega
  ·have d1 : decide ((i : Int) < (j : Int)) = false := decide_eq_false (by omega)
   have d1n : decide (i < j) = false := decide_eq_false (by omega)
   obtain rfl : j = i := by omega
   obtain ⟨r, hr⟩ : ∃ r, j = m + r := ⟨j - m, by omega⟩
   obtain ⟨e, he⟩ : ∃ e, a + r = e := ⟨_, rfl⟩
   have HJ := Lib.hid hr
   have hrR : r ≤ R.length := by omega
   have e2 : (j : Int) - 1 = (e : Int) := by omega
   have h1 : r = 0 ∨ ∃ y, R[r - 1]? = some y ∧ y.at_ < x.at_ := by
    rcases hlo with h | ⟨y, h, hq⟩
    ·exact Or.inl (by omega)
    ·by_cases h0 : r = 0
     ·exact Or.inl h0
     ·exact Or.inr ⟨y, by rw [← h, show j - 1 - m = r - 1 by omega], hq⟩
   have h2 : r = R.length ∨ ∃ y, R[r]? = some y ∧ x.at_ ≤ y.at_ := by
    rcases hhi with h | ⟨y, h, hq⟩
    ·exact Or.inl (by omega)
    ·exact Or.inr ⟨y, by rw [← h, show j - m = r by omega], hq⟩
   have hMs : SortedP (R.take r ++ x :: R.drop r) := by
    have hso := HS.out
    have hsp : SortedP (R.take r ++ R.drop r) := by rw [List.take_append_drop]; exact hso.1
    refine insert_join hsp ?_ ?_
    ·intro y hy
     rcases h2 with h | ⟨y0, h, hq⟩
     ·rw [h, List.drop_length] at hy; cases hy
     ·have h0 := lt_of_older (hso.2 x (List.mem_singleton.mpr rfl) y0 (List.mem_of_getElem? h)) (by omega)
      have hd := (List.pairwise_append.mp hsp).2.1
      rw [drop_cons h] at hy hd
      rcases List.mem_cons.mp hy with h3 | h3
      ·rw [h3]; exact h0
      ·exact h0.trans ((List.pairwise_cons.mp hd).1 y h3)
    ·rcases h1 with h | ⟨y, h, hq⟩
     ·exact Or.inl (by rw [h]; rfl)
     ·by_cases h0 : r = 0
      ·exact Or.inl (by rw [h0]; rfl)
      ·refine Or.inr ⟨R.take (r - 1), y, ?_, lt_of_at hq⟩
       have := last_take h
       rwa [show r - 1 + 1 = r by omega] at this
   have HM := Lib.hid hMs
   have HW := Lib.hid (And.intro (HR.out.up (hB.mono (Nat.le_refl _))) (Kg.of_below (g := g) hB))
   clear hlo hhi h1 h2 hB hMs hr
   go_wp2_with fail
   go_loopw [13] (fun u wk => ∃ k q : Nat, u = .int .i64 k ∧ a + q = k ∧ q ≤ r ∧ PcRow wk g (P ++ (R.take q ++ (x :: (R.drop q ++ S)))) ∧ Kg g w wk) (fun u _ => e - (intOf u).toNat)
   case atStart => exact ⟨a, 0, rfl, by omega, by omega, HW.out.1, HW.out.2⟩
   case round =>
    obtain ⟨k, q, rfl, hk, hq, hrow, hK⟩ := hrel
    by_cases hke : k < e
    ·have d2 : decide ((k : Int) < (e : Int)) = true := decide_eq_true (by omega)
     have d2n : decide (k < e) = true := decide_eq_true (by omega)
     obtain ⟨y, hy⟩ : ∃ y, R[q]? = some y := ⟨_, List.getElem?_eq_getElem (by omega)⟩
     have hdc := drop_cons hy
     have hrow' : PcRow wr g (P ++ R.take q ++ (x :: (y :: (R.drop (q + 1) ++ S)))) := by rw [hdc] at hrow; simpa only [zH, List.cons_append] using hrow
     have hlk : (P ++ R.take q).length = k := by rw [zG, List.length_take]; omega
     have hx1 := get_at (P ++ R.take q) (y :: (R.drop (q + 1) ++ S)) x
     have hy1 := get_at1 (P ++ R.take q) (R.drop (q + 1) ++ S) x y
     rw [hlk] at hx1 hy1
     obtain ⟨k1, hk1⟩ : ∃ k1, k + 1 = k1 := ⟨_, rfl⟩
     rw [hk1] at hy1
     obtain ⟨cx0, cx1⟩ := hrow'.2.2 k x hx1
     obtain ⟨cy0, cy1⟩ := hrow'.2.2 k1 y hy1
     have fx0 := hrow'.2.1 (k * 2)
     have fx1 := hrow'.2.1 (k * 2 + 1)
     have fy0 := hrow'.2.1 (k1 * 2)
     have fy1 := hrow'.2.1 (k1 * 2 + 1)
     have e3 : (k : Int) + 1 = (k1 : Int) := by omega
     have g1 : k < n := by omega
     have g2 : k1 < n := by omega
     have hset := set_adj' (P ++ R.take q) (R.drop (q + 1) ++ S) y x
     rw [hlk, hk1] at hset
     have HP := Lib.hid (PcRow.put (PcRow.put hrow' k y (List.getElem?_eq_some_iff.mp hx1).1) k1 x (by rw [List.length_set]; exact (List.getElem?_eq_some_iff.mp hy1).1))
     rw [hset] at HP
     have HT := Lib.hid (last_take hy)
     have HKs := Lib.hid hK
     have HK1 := Lib.hid hk1
     clear hset hrow hrow' hK hx1 hy1 hdc hy hlk hk1
     go_wp2_with fail
     go_region
     go_wp2_with fail
     go_roundw
     case rel => exact ⟨k + 1, q + 1, by have := HK1.out; go_num, by omega, by omega, by rw [HT.out]; have h := HP.out; simp only [zH, List.cons_append, List.nil_append] at h ⊢; exact h, ((((HKs.out.set _ _).set _ _).set _ _).set _ _).drew⟩
     case measure => have := HK1.out; simp [intOf]; omega
    ·have d2 : decide ((k : Int) < (e : Int)) = false := decide_eq_false (by omega)
     have d2n : decide (k < e) = false := decide_eq_false (by omega)
     obtain rfl : q = r := by omega
     have HF := Lib.hid (And.intro hrow hK)
     clear hrow hK
     go_wp2_with fail
     go_end0
     refine ⟨rfl, R.take q ++ x :: R.drop q, by simpa only [zH, List.cons_append] using HF.out.1, ?_, HM.out, HF.out.2⟩
     have := List.perm_middle (a := x) (l₁ := R.take q) (l₂ := R.drop q)
     rw [List.take_append_drop] at this
     exact this
theorem sym_2 (g n c : Nat) (P : List Pc) (y : Pc) (L S : List Pc) (w : World) (hR : PcRow w g (P ++ (L ++ (y :: S)))) (hl : P.length + (L.length + S.length + 1) = n) (hn : n ≤ 1000) (hr : 2 ≤ L.length) (hs : SortedP L) (ho : Older L [y]) :
  Calls Tryd.prog 121 #[.slice (some ⟨g, 0, none⟩) n c, .int .i64 P.length, .int .i64 (P.length + L.length : Nat), .int .i64 (P.length + L.length + 1 : Nat), .func (.func 49) #[] #[]] w (SymPost g P L [y] S w) := by
 have HR := Lib.hid hR
 have HS := Lib.hid (And.intro hs ho)
 have HC := Lib.hid (fun (x : Pc) (V : World) => pcmp_any y x V)
 have hgl0 := hR.1
 have HY0 := Lib.hid (hR.2.2 (P.length + L.length) y (by
  have := get_at (P ++ L) S y
  rwa [zG, zH] at this))
 obtain ⟨a, ha⟩ : ∃ a, P.length = a := ⟨_, rfl⟩
 obtain ⟨m, hm⟩ : ∃ m, a + L.length = m := ⟨_, rfl⟩
 obtain ⟨b, hb⟩ : ∃ b, m + 1 = b := ⟨_, rfl⟩
 have HRow := Lib.hid (fun (h : Nat) (x : Pc) (hx : L[h]? = some x) => hR.2.2 (a + h) x (by
  have := get_in (P := P) (T := y :: S) hx
  rwa [ha] at this))
 rw [ha] at hl HY0
 rw [hm] at HY0
 rw [ha, hm, hb]
 obtain ⟨la, hla⟩ : ∃ la, L.length = la := ⟨_, rfl⟩
 have e1 : (m : Int) - (a : Int) = (la : Int) := by omega
 have e1n : ((la : Int) == 1) = false := by simp; omega
 have e2 : (b : Int) - (m : Int) = 1 := by omega
 unfold Pc.v at HC
 clear hR hs ho
 go_in
 go_wp2_with fail
 go_loopw [14, 15] (fun u v wr => ∃ i j : Nat, u = .int .i64 i ∧ v = .int .i64 j ∧ a ≤ i ∧ i ≤ j ∧ j ≤ m ∧ (i = a ∨ ∃ x, L[i - 1 - a]? = some x ∧ x.at_ ≤ y.at_) ∧ (j = m ∨ ∃ x, L[j - a]? = some x ∧ y.at_ < x.at_) ∧ Below w.heap.size w wr) (fun u v _ => (intOf v).toNat - (intOf u).toNat)
 case atStart => exact ⟨a, m, rfl, rfl, by omega, by omega, by omega, Or.inl rfl, Or.inl rfl, Below.refl _ _⟩
 case round =>
  obtain ⟨i, j, rfl, rfl, hi, hij, hj, hlo, hhi, hB⟩ := hrel
  by_cases hlt : i < j
  ·have d1 : decide ((i : Int) < (j : Int)) = true := decide_eq_true (by omega)
   have d1n : decide (i < j) = true := decide_eq_true (by omega)
   obtain ⟨h1, h2⟩ := half_of hlt
   obtain ⟨h, hh⟩ : ∃ h, (i + j) / 2 = h := ⟨_, rfl⟩
   rw [hh] at h1 h2
   obtain ⟨x, hx⟩ : ∃ x, L[h - a]? = some x := ⟨_, List.getElem?_eq_getElem (by omega)⟩
   have hc := HRow.out (h - a) x hx
   rw [show a + (h - a) = h by omega] at hc
   have hgl : g < wr.heap.size := Nat.lt_of_lt_of_le hgl0 hB.size
   have cx0 := (hB.cell (p := ⟨g, h * 2, none⟩) hgl0).trans hc.1
   have cx1 := (hB.cell (p := ⟨g, h * 2 + 1, none⟩) hgl0).trans hc.2
   have cy0 := (hB.cell (p := ⟨g, m * 2, none⟩) hgl0).trans HY0.out.1
   have cy1 := (hB.cell (p := ⟨g, m * 2 + 1, none⟩) hgl0).trans HY0.out.2
   have hhI : ((i : Int) + (j : Int)) / 2 = (h : Int) := by omega
   have hhn : h < n := by omega
   have han : m < n := by omega
   have HL := Lib.hid (And.intro hlo (And.intro hhi (And.intro hB hx)))
   have HCy := Lib.hid (HC.out x)
   clear hlo hhi hB hh hc hx
   by_cases hq : y.at_ < x.at_
   ·rw [cmpI_neg hq] at HCy
    go_wp2_with fail
    obtain ⟨wd17, hwd17⟩ : ∃ W : World, wr.drew = W := ⟨_, rfl⟩
    have hS := zB3 hwd17
    refine wp_region_held (S := Below wr.heap.size wr) (by kernel_rfl) ?_
    change wpAnyH _ _ _ _ _ _ _ _ wr.drew
    rw [hwd17]
    clear hwd17
    refine zU 0 rfl hS ?_
    refine zU 1 rfl hS ?_
    refine zU 2 rfl hS ?_
    refine zU 3 rfl hS ?_
    refine zU 4 rfl hS ?_ (hy := fun W hH => by
     have q0 := (hH.cell (p := ⟨g, h * 2, none⟩) hgl).trans cx0
     have q1 := (hH.cell (p := ⟨g, h * 2 + 1, none⟩) hgl).trans cx1
     have q2 := (hH.cell (p := ⟨g, m * 2, none⟩) hgl).trans cy0
     have q3 := (hH.cell (p := ⟨g, m * 2 + 1, none⟩) hgl).trans cy1
     go_simp
     with_reducible rfl)
    refine zU 5 rfl hS ?_
    refine zU 6 rfl hS ?_
    refine zU 7 rfl hS ?_
    refine zU 8 rfl hS ?_ (hy := fun W hH => by
     have q0 := (hH.cell (p := ⟨g, h * 2, none⟩) hgl).trans cx0
     have q1 := (hH.cell (p := ⟨g, h * 2 + 1, none⟩) hgl).trans cx1
     have q2 := (hH.cell (p := ⟨g, m * 2, none⟩) hgl).trans cy0
     have q3 := (hH.cell (p := ⟨g, m * 2 + 1, none⟩) hgl).trans cy1
     go_simp
     with_reducible rfl)
    refine zR 9 rfl (fun K' hK' => ?_)
    go_simp
    refine (HCy.out _).mono ?_
    rintro e w1 ⟨rfl, hb1⟩
    have hS1 := hS.trans (hb1.mono hS.size)
    go_simp
    refine hK'.out _ _ hS1 (fun hS => ?_)
    clear hK' K'
    refine zU 10 rfl hS ?_
    refine zU 11 rfl hS ?_
    refine wpAnyH_done (by kernel_rfl) ?_ _
    have HB1 := Lib.hid (HL.out.2.2.1.trans (hS.mono HL.out.2.2.1.size))
    clear hS
    go_wp2_with fail
    go_roundw
    case rel => exact ⟨i, h, by go_num, by go_num, hi, by omega, by omega, HL.out.1, Or.inr ⟨x, HL.out.2.2.2, hq⟩, HB1.out⟩
    case measure => simp [intOf]; omega
   ·have d3 := cmpI_pos hq
    obtain ⟨cv, hcv⟩ : ∃ v, cmpI y.at_ x.at_ = v := ⟨_, rfl⟩
    rw [hcv] at HCy d3
    clear hcv
    go_wp2_with fail
    obtain ⟨wd17, hwd17⟩ : ∃ W : World, wr.drew = W := ⟨_, rfl⟩
    have hS := zB3 hwd17
    refine wp_region_held (S := Below wr.heap.size wr) (by kernel_rfl) ?_
    change wpAnyH _ _ _ _ _ _ _ _ wr.drew
    rw [hwd17]
    clear hwd17
    refine zU 0 rfl hS ?_
    refine zU 1 rfl hS ?_
    refine zU 2 rfl hS ?_
    refine zU 3 rfl hS ?_
    refine zU 4 rfl hS ?_ (hy := fun W hH => by
     have q0 := (hH.cell (p := ⟨g, h * 2, none⟩) hgl).trans cx0
     have q1 := (hH.cell (p := ⟨g, h * 2 + 1, none⟩) hgl).trans cx1
     have q2 := (hH.cell (p := ⟨g, m * 2, none⟩) hgl).trans cy0
     have q3 := (hH.cell (p := ⟨g, m * 2 + 1, none⟩) hgl).trans cy1
     go_simp
     with_reducible rfl)
    refine zU 5 rfl hS ?_
    refine zU 6 rfl hS ?_
    refine zU 7 rfl hS ?_
    refine zU 8 rfl hS ?_ (hy := fun W hH => by
     have q0 := (hH.cell (p := ⟨g, h * 2, none⟩) hgl).trans cx0
     have q1 := (hH.cell (p := ⟨g, h * 2 + 1, none⟩) hgl).trans cx1
     have q2 := (hH.cell (p := ⟨g, m * 2, none⟩) hgl).trans cy0
     have q3 := (hH.cell (p := ⟨g, m * 2 + 1, none⟩) hgl).trans cy1
     go_simp
     with_reducible rfl)
    refine zR 9 rfl (fun K' hK' => ?_)
    go_simp
    refine (HCy.out _).mono ?_
    rintro e w1 ⟨rfl, hb1⟩
    have hS1 := hS.trans (hb1.mono hS.size)
    go_simp
    refine hK'.out _ _ hS1 (fun hS => ?_)
    clear hK' K'
    refine zU 10 rfl hS ?_
    refine zU 11 rfl hS ?_
    refine wpAnyH_done (by kernel_rfl) ?_ _
    have HB1 := Lib.hid (HL.out.2.2.1.trans (hS.mono HL.out.2.2.1.size))
    clear hS
    go_wp2_with fail
    go_roundw
    case rel => exact ⟨h + 1, j, by go_num, by go_num, by omega, by omega, hj, Or.inr ⟨x, by rw [show h + 1 - 1 - a = h - a by omega]; exact HL.out.2.2.2, by omega⟩, HL.out.2.1, HB1.out⟩
    case measure => simp [intOf]; omega
  ·have d1 : decide ((i : Int) < (j : Int)) = false := decide_eq_false (by omega)
   have d1n : decide (i < j) = false := decide_eq_false (by omega)
   obtain rfl : j = i := by omega
   obtain ⟨r, hr2⟩ : ∃ r, j = a + r := ⟨j - a, by omega⟩
   have hrR : r ≤ L.length := by omega
   have h1 : r = 0 ∨ ∃ x, L[r - 1]? = some x ∧ x.at_ ≤ y.at_ := by
    rcases hlo with h | ⟨x, h, hq⟩
    ·exact Or.inl (by omega)
    ·by_cases h0 : r = 0
     ·exact Or.inl h0
     ·exact Or.inr ⟨x, by rw [← h, show j - 1 - a = r - 1 by omega], hq⟩
   have h2 : r = L.length ∨ ∃ x, L[r]? = some x ∧ y.at_ < x.at_ := by
    rcases hhi with h | ⟨x, h, hq⟩
    ·exact Or.inl (by omega)
    ·exact Or.inr ⟨x, by rw [← h, show j - a = r by omega], hq⟩
   have hMs : SortedP (L.take r ++ y :: L.drop r) := by
    have hso := HS.out
    have hsp : SortedP (L.take r ++ L.drop r) := by rw [List.take_append_drop]; exact hso.1
    refine insert_join hsp ?_ ?_
    ·intro z hz
     rcases h2 with h | ⟨x0, h, hq⟩
     ·rw [h, List.drop_length] at hz; cases hz
     ·have h0 := lt_of_at hq
      have hd := (List.pairwise_append.mp hsp).2.1
      rw [drop_cons h] at hz hd
      rcases List.mem_cons.mp hz with h3 | h3
      ·rw [h3]; exact h0
      ·exact h0.trans ((List.pairwise_cons.mp hd).1 z h3)
    ·rcases h1 with h | ⟨x, h, hq⟩
     ·exact Or.inl (by rw [h]; rfl)
     ·by_cases h0 : r = 0
      ·exact Or.inl (by rw [h0]; rfl)
      ·refine Or.inr ⟨L.take (r - 1), x, ?_, lt_of_older (hso.2 x (List.mem_of_getElem? h) y (List.mem_singleton.mpr rfl)) (by omega)⟩
       have := last_take h
       rwa [show r - 1 + 1 = r by omega] at this
   have HM := Lib.hid hMs
   have HW := Lib.hid (And.intro (HR.out.up (hB.mono (Nat.le_refl _))) (Kg.of_below (g := g) hB))
   have HR2 := Lib.hid hr2
   clear hlo hhi h1 h2 hB hMs hr2
   go_wp2_with fail
   go_loopw [17] (fun u wk => ∃ k q : Nat, u = .int .i64 k ∧ a + q = k ∧ r ≤ q ∧ q ≤ L.length ∧ PcRow wk g (P ++ (L.take q ++ (y :: (L.drop q ++ S)))) ∧ Kg g w wk) (fun u _ => (intOf u).toNat)
   case atStart => exact ⟨m, la, rfl, by omega, by omega, by omega, by rw [List.take_of_length_le (by omega), List.drop_eq_nil_of_le (by omega)]; exact HW.out.1, HW.out.2⟩
   case round =>
    obtain ⟨k, q, rfl, hk, hq, hq2, hrow, hK⟩ := hrel
    have hj2 := HR2.out
    by_cases hke : j < k
    ·have d2 : decide ((j : Int) < (k : Int)) = true := decide_eq_true (by omega)
     have d2n : decide (j < k) = true := decide_eq_true (by omega)
     obtain ⟨q0, hq0⟩ : ∃ q0, q = q0 + 1 := ⟨q - 1, by omega⟩
     obtain ⟨x, hx⟩ : ∃ x, L[q0]? = some x := ⟨_, List.getElem?_eq_getElem (by omega)⟩
     have hdc := drop_cons hx
     have hlt2 := last_take hx
     have hrow' : PcRow wr g (P ++ L.take q0 ++ (x :: (y :: (L.drop q ++ S)))) := by rw [hq0, hlt2] at hrow; rw [hq0]; simpa only [zH, List.cons_append, List.nil_append] using hrow
     obtain ⟨k0, hk0⟩ : ∃ k0, a + q0 = k0 := ⟨_, rfl⟩
     have hlk : (P ++ L.take q0).length = k0 := by rw [zG, List.length_take]; omega
     have hkk : k0 + 1 = k := by omega
     have hx1 := get_at (P ++ L.take q0) (y :: (L.drop q ++ S)) x
     have hy1 := get_at1 (P ++ L.take q0) (L.drop q ++ S) x y
     rw [hlk] at hx1 hy1
     rw [hkk] at hy1
     obtain ⟨cx0, cx1⟩ := hrow'.2.2 k0 x hx1
     obtain ⟨cy0, cy1⟩ := hrow'.2.2 k y hy1
     have fx0 := hrow'.2.1 (k0 * 2)
     have fx1 := hrow'.2.1 (k0 * 2 + 1)
     have fy0 := hrow'.2.1 (k * 2)
     have fy1 := hrow'.2.1 (k * 2 + 1)
     have e3 : (k : Int) - 1 = (k0 : Int) := by omega
     have g1 : k0 < n := by omega
     have g2 : k < n := by omega
     have hset := set_adj (P ++ L.take q0) (L.drop q ++ S) y x
     rw [hlk, hkk] at hset
     have HP := Lib.hid (PcRow.put (PcRow.put hrow' k x (List.getElem?_eq_some_iff.mp hy1).1) k0 y (by rw [List.length_set]; exact (List.getElem?_eq_some_iff.mp hx1).1))
     rw [hset] at HP
     have HT := Lib.hid (And.intro hdc (And.intro hkk (And.intro hq0 hk0)))
     have HKs := Lib.hid hK
     clear hset hrow hrow' hK hx1 hy1 hdc hlt2 hx hlk hkk hq0 hk0 hj2
     go_wp2_with fail
     go_region
     go_wp2_with fail
     go_roundw
     case rel => have := HT.out.2.1; have := HT.out.2.2.1; have := HT.out.2.2.2; have := HR2.out; exact ⟨k0, q0, by go_num, by omega, by omega, by omega, by rw [HT.out.1, ← HT.out.2.2.1]; have h := HP.out; simp only [zH, List.cons_append, List.nil_append] at h ⊢; exact h, ((((HKs.out.set _ _).set _ _).set _ _).set _ _).drew⟩
     case measure => have := HT.out.2.1; simp [intOf]; omega
    ·have d2 : decide ((j : Int) < (k : Int)) = false := decide_eq_false (by omega)
     have d2n : decide (j < k) = false := decide_eq_false (by omega)
     obtain rfl : q = r := by omega
     have HF := Lib.hid (And.intro hrow hK)
     clear hrow hK hj2
     go_wp2_with fail
     go_end0
     refine ⟨rfl, L.take q ++ y :: L.drop q, by simpa only [zH, List.cons_append] using HF.out.1, ?_, HM.out, HF.out.2⟩
     have := (List.perm_middle (a := y) (l₁ := L.take q) (l₂ := L.drop q))
     rw [List.take_append_drop] at this
     exact this.trans (List.perm_append_singleton y L).symm
def SymC (g n c N : Nat) : Prop := ∀ (P L R S : List Pc) (w : World), L.length + R.length ≤ N → L ≠ [] → R ≠ [] → SortedP L → SortedP R → Older L R → PcRow w g (P ++ (L ++ (R ++ S))) → P.length + (L.length + (R.length + S.length)) = n →
 Calls Tryd.prog 121 #[.slice (some ⟨g, 0, none⟩) n c, .int .i64 P.length, .int .i64 (P.length + L.length : Nat), .int .i64 (P.length + L.length + R.length : Nat), .func (.func 49) #[] #[]] w (SymPost g P L R S w)
theorem perm4 {L1 L2 R1 R2 M1 M2 : List Pc} (p1 : M1.Perm (L1 ++ R1)) (p2 : M2.Perm (L2 ++ R2)) : (M1 ++ M2).Perm (L1 ++ L2 ++ (R1 ++ R2)) := by
 refine (p1.append p2).trans ?_
 rw [zH, zH]
 refine List.Perm.append_left _ ?_
 rw [← zH, ← zH]
 exact List.Perm.append_right _ List.perm_append_comm
theorem older_sub {A B A' B' : List Pc} (h : Older A B) (ha : ∀ x ∈ A', x ∈ A) (hb : ∀ x ∈ B', x ∈ B) : Older A' B' := fun x hx y hy => h x (ha x hx) y (hb y hy)
theorem sorted_l {A B : List Pc} (h : SortedP (A ++ B)) : SortedP A := (List.pairwise_append.mp h).1
theorem sorted_r {A B : List Pc} (h : SortedP (A ++ B)) : SortedP B := (List.pairwise_append.mp h).2.1
theorem sym_3a (g n c : Nat) (P L R S : List Pc) (w : World) (a m b d : Nat) (ha : P.length = a) (hm : a + L.length = m) (hb : m + R.length = b) (hd : (a + b) / 2 = d) (hmid : d < m) (IH : SymC g n c (L.length + R.length - 1)) (hR : PcRow w g (P ++ (L ++ (R ++ S)))) (hl : a + (L.length + (R.length + S.length)) = n) (hn : n ≤ 1000) (hL2 : 2 ≤ L.length) (hR2 : 2 ≤ R.length) (hsL : SortedP L) (hsR : SortedP R) (ho : Older L R) :
  Calls Tryd.prog 121 #[.slice (some ⟨g, 0, none⟩) n c, .int .i64 a, .int .i64 m, .int .i64 b, (.func (.func 49) #[] #[])] w (SymPost g P L R S w) := by
 have HR := Lib.hid hR
 have HS := Lib.hid (And.intro hsL (And.intro hsR ho))
 have HI := Lib.hid IH
 have HC := Lib.hid (fun (x y : Pc) (V : World) => pcmp_any y x V)
 have hgl0 := hR.1
 have HRowL := Lib.hid (fun (h : Nat) (x : Pc) (hx : L[h]? = some x) => hR.2.2 (a + h) x (by
  have := get_in (P := P) (T := R ++ S) hx
  rwa [ha] at this))
 have HRowR := Lib.hid (fun (h : Nat) (x : Pc) (hx : R[h]? = some x) => hR.2.2 (m + h) x (by
  have := get_in (P := P ++ L) (T := S) hx
  rw [zG, ha, hm] at this
  simpa only [zH] using this))
 obtain ⟨la, hla⟩ : ∃ la, L.length = la := ⟨_, rfl⟩
 obtain ⟨lb, hlb⟩ : ∃ lb, R.length = lb := ⟨_, rfl⟩
 obtain ⟨nn, hnn⟩ : ∃ nn, d + m = nn := ⟨_, rfl⟩
 obtain ⟨lo, hlo0⟩ : ∃ lo, nn - b = lo := ⟨_, rfl⟩
 obtain ⟨hi, hhi0⟩ : ∃ hi, d = hi := ⟨_, rfl⟩
 rw [hla, hlb] at hl HI
 rw [hla] at hm hL2
 rw [hlb] at hb hR2
 have k1 : (m : Int) - (a : Int) = (la : Int) := by omega
 have k1n : ((la : Int) == 1) = false := by simp; omega
 have k2 : (b : Int) - (m : Int) = (lb : Int) := by omega
 have k2n : ((lb : Int) == 1) = false := by simp; omega
 have k3 : ((a : Int) + (b : Int)) / 2 = (d : Int) := by omega
 have k4 : (d : Int) + (m : Int) = (nn : Int) := by omega
 have k5 : (nn : Int) - 1 = ((nn - 1 : Nat) : Int) := by omega
 obtain ⟨p, hp⟩ : ∃ p, nn - 1 = p := ⟨_, rfl⟩
 rw [hp] at k5
 have b1 : lo ≤ hi := by omega
 have b2 : a ≤ lo := by omega
 have b3 : hi ≤ m := by omega
 have b4 : hi ≤ d := by omega
 have b5 : nn ≤ lo + b := by omega
 have b6 : a < d := by omega
 have b7 : d < b := by omega
 have HLO := Lib.hid hlo0
 have HHI := Lib.hid hhi0
 have HNN := Lib.hid hnn
 have HD := Lib.hid hd
 have k6 : (nn : Int) - (b : Int) = (lo : Int) := by omega
 have k7 : decide ((d : Int) < (m : Int)) = true := decide_eq_true (by omega)
 have k7n : decide (d < m) = true := decide_eq_true (by omega)
 subst hhi0
 clear hR hsL hsR ho IH hlo0 hd
 go_in
 go_wp2_with fail
 go_loopw [20, 21] (fun u v wr => ∃ i j : Nat, u = .int .i64 i ∧ v = .int .i64 j ∧ lo ≤ i ∧ i ≤ j ∧ j ≤ d ∧ (i = lo ∨ ∃ x y, L[i - 1 - a]? = some x ∧ R[nn - i - m]? = some y ∧ x.at_ ≤ y.at_) ∧ (j = d ∨ ∃ x y, L[j - a]? = some x ∧ R[nn - 1 - j - m]? = some y ∧ y.at_ < x.at_) ∧ Below w.heap.size w wr) (fun u v _ => (intOf v).toNat - (intOf u).toNat)
 case atStart => exact ⟨lo, d, rfl, rfl, by omega, by omega, by omega, Or.inl rfl, Or.inl rfl, Below.refl _ _⟩
 case round =>
  obtain ⟨i, j, rfl, rfl, hi, hij, hj, hlo, hhi, hB⟩ := hrel
  by_cases hlt : i < j
  ·have d1 : decide ((i : Int) < (j : Int)) = true := decide_eq_true (by omega)
   have d1n : decide (i < j) = true := decide_eq_true (by omega)
   obtain ⟨h1, h2⟩ := half_of hlt
   obtain ⟨h, hh⟩ : ∃ h, (i + j) / 2 = h := ⟨_, rfl⟩
   rw [hh] at h1 h2
   obtain ⟨q, hqd⟩ : ∃ q, p - h = q := ⟨_, rfl⟩
   have hq1 : m ≤ q := by omega
   have hq2 : q < b := by omega
   obtain ⟨x, hx⟩ : ∃ x, L[h - a]? = some x := ⟨_, List.getElem?_eq_getElem (by omega)⟩
   obtain ⟨y, hy⟩ : ∃ y, R[q - m]? = some y := ⟨_, List.getElem?_eq_getElem (by omega)⟩
   have hcx := HRowL.out (h - a) x hx
   rw [show a + (h - a) = h by omega] at hcx
   have hcy := HRowR.out (q - m) y hy
   rw [show m + (q - m) = q by omega] at hcy
   have hgl : g < wr.heap.size := Nat.lt_of_lt_of_le hgl0 hB.size
   have cx0 := (hB.cell (p := ⟨g, h * 2, none⟩) hgl0).trans hcx.1
   have cx1 := (hB.cell (p := ⟨g, h * 2 + 1, none⟩) hgl0).trans hcx.2
   have cy0 := (hB.cell (p := ⟨g, q * 2, none⟩) hgl0).trans hcy.1
   have cy1 := (hB.cell (p := ⟨g, q * 2 + 1, none⟩) hgl0).trans hcy.2
   have hhI : ((i : Int) + (j : Int)) / 2 = (h : Int) := by omega
   have hqI : (p : Int) - (h : Int) = (q : Int) := by omega
   have hhn : h < n := by omega
   have hqn : q < n := by omega
   have d6 : IntKind.i64.wrap (q : Int) = (q : Int) := by rw [IntKind.wrap_i64]; omega
   have e1 : L[h + 1 - 1 - a]? = some x := by rw [show h + 1 - 1 - a = h - a by omega]; exact hx
   have e2 : R[nn - (h + 1) - m]? = some y := by rw [show nn - (h + 1) - m = q - m by omega]; exact hy
   have e3 : R[nn - 1 - h - m]? = some y := by rw [show nn - 1 - h - m = q - m by omega]; exact hy
   have HL := Lib.hid (And.intro hlo (And.intro hhi (And.intro hB (And.intro hx (And.intro e1 (And.intro e2 e3))))))
   have HCy := Lib.hid (HC.out x y)
   unfold Pc.v at HCy
   clear hlo hhi hB hh hcx hcy hx hy e1 e2 e3 hqd
   by_cases hq : y.at_ < x.at_
   ·rw [cmpI_neg hq] at HCy
    go_wp2_with fail
    obtain ⟨wd35, hwd35⟩ : ∃ W : World, wr.drew = W := ⟨_, rfl⟩
    have hS := zB3 hwd35
    refine wp_region_held (S := Below wr.heap.size wr) (by kernel_rfl) ?_
    change wpAnyH _ _ _ _ _ _ _ _ wr.drew
    rw [hwd35]
    clear hwd35
    refine zU 0 rfl hS ?_
    refine zU 1 rfl hS ?_
    refine zU 2 rfl hS ?_
    refine zU 3 rfl hS ?_
    refine zU 4 rfl hS ?_
    refine zU 5 rfl hS ?_
    refine zU 6 rfl hS ?_ (hy := fun W hH => by
     have q0 := (hH.cell (p := ⟨g, h * 2, none⟩) hgl).trans cx0
     have q1 := (hH.cell (p := ⟨g, h * 2 + 1, none⟩) hgl).trans cx1
     have q2 := (hH.cell (p := ⟨g, q * 2, none⟩) hgl).trans cy0
     have q3 := (hH.cell (p := ⟨g, q * 2 + 1, none⟩) hgl).trans cy1
     go_simp
     with_reducible rfl)
    refine zU 7 rfl hS ?_
    refine zU 8 rfl hS ?_
    refine zU 9 rfl hS ?_
    refine zU 10 rfl hS ?_ (hy := fun W hH => by
     have q0 := (hH.cell (p := ⟨g, h * 2, none⟩) hgl).trans cx0
     have q1 := (hH.cell (p := ⟨g, h * 2 + 1, none⟩) hgl).trans cx1
     have q2 := (hH.cell (p := ⟨g, q * 2, none⟩) hgl).trans cy0
     have q3 := (hH.cell (p := ⟨g, q * 2 + 1, none⟩) hgl).trans cy1
     go_simp
     with_reducible rfl)
    refine zR 11 rfl (fun K' hK' => ?_)
    go_simp
    refine (HCy.out _).mono ?_
    rintro e w1 ⟨rfl, hb1⟩
    have hS1 := hS.trans (hb1.mono hS.size)
    go_simp
    refine hK'.out _ _ hS1 (fun hS => ?_)
    clear hK' K'
    refine zU 12 rfl hS ?_
    refine zU 13 rfl hS ?_
    refine wpAnyH_done (by kernel_rfl) ?_ _
    have HB1 := Lib.hid (HL.out.2.2.1.trans (hS.mono HL.out.2.2.1.size))
    clear hS d6
    go_wp2_with fail
    go_roundw
    case rel => exact ⟨i, h, by go_num, by go_num, hi, by omega, by omega, HL.out.1, Or.inr ⟨x, y, HL.out.2.2.2.1, HL.out.2.2.2.2.2.2, hq⟩, HB1.out⟩
    case measure => simp [intOf]; omega
   ·have d3 := cmpI_pos hq
    obtain ⟨cv, hcv⟩ : ∃ v, cmpI y.at_ x.at_ = v := ⟨_, rfl⟩
    rw [hcv] at HCy d3
    clear hcv
    go_wp2_with fail
    obtain ⟨wd35, hwd35⟩ : ∃ W : World, wr.drew = W := ⟨_, rfl⟩
    have hS := zB3 hwd35
    refine wp_region_held (S := Below wr.heap.size wr) (by kernel_rfl) ?_
    change wpAnyH _ _ _ _ _ _ _ _ wr.drew
    rw [hwd35]
    clear hwd35
    refine zU 0 rfl hS ?_
    refine zU 1 rfl hS ?_
    refine zU 2 rfl hS ?_
    refine zU 3 rfl hS ?_
    refine zU 4 rfl hS ?_
    refine zU 5 rfl hS ?_
    refine zU 6 rfl hS ?_ (hy := fun W hH => by
     have q0 := (hH.cell (p := ⟨g, h * 2, none⟩) hgl).trans cx0
     have q1 := (hH.cell (p := ⟨g, h * 2 + 1, none⟩) hgl).trans cx1
     have q2 := (hH.cell (p := ⟨g, q * 2, none⟩) hgl).trans cy0
     have q3 := (hH.cell (p := ⟨g, q * 2 + 1, none⟩) hgl).trans cy1
     go_simp
     with_reducible rfl)
    refine zU 7 rfl hS ?_
    refine zU 8 rfl hS ?_
    refine zU 9 rfl hS ?_
    refine zU 10 rfl hS ?_ (hy := fun W hH => by
     have q0 := (hH.cell (p := ⟨g, h * 2, none⟩) hgl).trans cx0
     have q1 := (hH.cell (p := ⟨g, h * 2 + 1, none⟩) hgl).trans cx1
     have q2 := (hH.cell (p := ⟨g, q * 2, none⟩) hgl).trans cy0
     have q3 := (hH.cell (p := ⟨g, q * 2 + 1, none⟩) hgl).trans cy1
     go_simp
     with_reducible rfl)
    refine zR 11 rfl (fun K' hK' => ?_)
    go_simp
    refine (HCy.out _).mono ?_
    rintro e w1 ⟨rfl, hb1⟩
    have hS1 := hS.trans (hb1.mono hS.size)
    go_simp
    refine hK'.out _ _ hS1 (fun hS => ?_)
    clear hK' K'
    refine zU 12 rfl hS ?_
    refine zU 13 rfl hS ?_
    refine wpAnyH_done (by kernel_rfl) ?_ _
    have HB1 := Lib.hid (HL.out.2.2.1.trans (hS.mono HL.out.2.2.1.size))
    clear hS d6
    go_wp2_with fail
    go_roundw
    case rel => exact ⟨h + 1, j, by go_num, by go_num, by omega, by omega, hj, Or.inr ⟨x, y, HL.out.2.2.2.2.1, HL.out.2.2.2.2.2.1, by omega⟩, HL.out.2.1, HB1.out⟩
    case measure => simp [intOf]; omega
  ·have d1 : decide ((i : Int) < (j : Int)) = false := decide_eq_false (by omega)
   have d1n : decide (i < j) = false := decide_eq_false (by omega)
   obtain rfl : j = i := by omega
   obtain ⟨u, hu⟩ : ∃ u, a + u = j := ⟨j - a, by omega⟩
   obtain ⟨v, hv⟩ : ∃ v, j + v = d := ⟨d - j, by omega⟩
   obtain ⟨e, he⟩ : ∃ e, m + v = e := ⟨_, rfl⟩
   have hul : u ≤ la := by omega
   have hvl : v ≤ lb := by omega
   have e1 : (nn : Int) - (j : Int) = (e : Int) := by omega
   have hso := HS.out
   have hLo := HLO.out
   have hHi := HHI.out
   have j1 : L.take u = [] ∨ R.drop v = [] ∨ ∃ x y A' B', L.take u = A' ++ [x] ∧ R.drop v = y :: B' ∧ ltP x y := by
    by_cases hu0 : u = 0
    ·exact Or.inl (by rw [hu0]; rfl)
    ·rcases hlo with h | ⟨x, y, hx, hy, hxy⟩
     ·exact Or.inr (Or.inl (List.drop_eq_nil_of_le (by omega)))
     ·rw [show j - 1 - a = u - 1 by omega] at hx
      rw [show nn - j - m = v by omega] at hy
      refine Or.inr (Or.inr ⟨x, y, L.take (u - 1), R.drop (v + 1), ?_, drop_cons hy, lt_of_older (hso.2.2 x (List.mem_of_getElem? hx) y (List.mem_of_getElem? hy)) (by omega)⟩)
      have := last_take hx
      rwa [show u - 1 + 1 = u by omega] at this
   have j2 : L.drop u = [] ∨ R.take v = [] ∨ ∃ x y A' B', R.take v = A' ++ [x] ∧ L.drop u = y :: B' ∧ ltP x y := by
    by_cases hv0 : v = 0
    ·exact Or.inr (Or.inl (by rw [hv0]; rfl))
    ·rcases hhi with h | ⟨x, y, hx, hy, hxy⟩
     ·exact Or.inl (List.drop_eq_nil_of_le (by omega))
     ·rw [show j - a = u by omega] at hx
      rw [show nn - 1 - j - m = v - 1 by omega] at hy
      refine Or.inr (Or.inr ⟨y, x, R.take (v - 1), L.drop (u + 1), ?_, drop_cons hx, lt_of_at hxy⟩)
      have := last_take hy
      rwa [show v - 1 + 1 = v by omega] at this
   have tL : L.take u ++ L.drop u = L := List.take_append_drop _ _
   have tR : R.take v ++ R.drop v = R := List.take_append_drop _ _
   have q1 : (L.take u).length = u := by rw [List.length_take]; omega
   have q2 : (R.take v).length = v := by rw [List.length_take]; omega
   have q3 : (L.drop u).length = la - u := by rw [List.length_drop]; omega
   have q4 : (R.drop v).length = lb - v := by rw [List.length_drop]; omega
   obtain ⟨L1, z1⟩ : ∃ z, L.take u = z := ⟨_, rfl⟩
   obtain ⟨L2, z2⟩ : ∃ z, L.drop u = z := ⟨_, rfl⟩
   obtain ⟨R1, z3⟩ : ∃ z, R.take v = z := ⟨_, rfl⟩
   obtain ⟨R2, z4⟩ : ∃ z, R.drop v = z := ⟨_, rfl⟩
   rw [z1, z2] at tL
   rw [z3, z4] at tR
   rw [z1, z4] at j1
   rw [z2, z3] at j2
   rw [z1] at q1
   rw [z3] at q2
   rw [z2] at q3
   rw [z4] at q4
   have HJ := Lib.hid (And.intro j1 j2)
   have HW := Lib.hid (And.intro (HR.out.up (hB.mono (Nat.le_refl _))) (Kg.of_below (g := g) hB))
   subst tL tR
   have HSo := Lib.hid hso
   clear hlo hhi j1 j2 hB hso z1 z2 z3 z4 hLo hHi
   have HQ := Lib.hid (And.intro hla hlb)
   clear hla hlb HRowL HRowR HC
   rcases (show u = 0 ∨ (u ≠ 0 ∧ u ≠ la) ∨ u = la by omega) with cu | cu | cu
   ·rcases (show v = 0 ∨ (v ≠ 0 ∧ v ≠ lb) ∨ v = lb by omega) with cv | cv | cv
    ·exfalso; omega
    ·have s1 : decide (j < m) = true := decide_eq_true (by omega)
     have s2 : decide (m < e) = true := decide_eq_true (by omega)
     have s3 : decide (a < j) = false := decide_eq_false (by omega)
     have s4 : decide (j < d) = true := decide_eq_true (by omega)
     have s5 : decide (d < e) = true := decide_eq_true (by omega)
     have s6 : decide (e < b) = true := decide_eq_true (by omega)
     have hLn : L1.length + L2.length = la := by omega
     have hRn : R1.length + R2.length = lb := by omega
     have nL1 : L1 = [] := List.length_eq_zero_iff.mp (by omega)
     have nL2 : L2 ≠ [] := List.length_pos_iff.mp (by omega)
     have nR1 : R1 ≠ [] := List.length_pos_iff.mp (by omega)
     have nR2 : R2 ≠ [] := List.length_pos_iff.mp (by omega)
     have hlen : P.length + (L1.length + (R1.length + (L2.length + (R2.length + S.length)))) = n := by omega
     have p1 : (P ++ L1).length = j := by rw [zG]; omega
     have p2 : j + L2.length = m := by omega
     have p3 : m + R1.length = e := by omega
     have hc1 := rotate_any g n c (.func (.func 49) #[] #[]) (P ++ L1) L2 R1 (R2 ++ S) wr (by have h := HW.out.1; simp only [zH] at h ⊢; exact h) (by simp only [zG]; omega) hn nL2 nR1
     rw [p1, p2, p3] at hc1
     have HC1 := Lib.hid hc1
     clear hc1
     go_wp2_with fail
     refine HC1.out.mono ?_
     rintro e0 w2 ⟨rfl, hrow2, hk2⟩
     have hrow2 : PcRow w2 g (P ++ (L1 ++ (R1 ++ (L2 ++ (R2 ++ S))))) := by simpa only [zH] using hrow2
     have hK2 := HW.out.2.trans hk2
     clear hk2
     obtain ⟨M1, hM1⟩ : ∃ M1, M1 = L1 ++ R1 := ⟨_, rfl⟩
     have pm1 : M1.Perm (L1 ++ R1) := by rw [hM1]
     have sm1 : SortedP M1 := by rw [hM1, nL1, List.nil_append]; exact sorted_l HSo.out.2.1
     have hrow3 : PcRow w2 g (P ++ (M1 ++ (L2 ++ (R2 ++ S)))) := by rw [hM1]; simpa only [zH] using hrow2
     have hK3 := hK2
     clear hrow2 hK2 hM1
     have hM1l : M1.length = L1.length + R1.length := by rw [pm1.length_eq, zG]
     have hc3 := HI.out (P ++ M1) L2 R2 S w2 (by omega) nL2 nR2 (sorted_r HSo.out.1) (sorted_r HSo.out.2.1) (older_sub HSo.out.2.2 (fun x hx => List.mem_append_right _ hx) (fun x hx => List.mem_append_right _ hx)) (by simpa only [zH] using hrow3) (by simp only [zG]; omega)
     rw [show (P ++ M1).length = d by rw [zG]; omega, show d + L2.length = e by omega, show e + R2.length = b by omega] at hc3
     have HC3 := Lib.hid (And.intro hc3 (And.intro hK3 (And.intro pm1 sm1)))
     clear hc3 hrow3 hK3 pm1 sm1
     go_wp2_with fail
     refine HC3.out.1.mono ?_
     rintro e0 w4 ⟨rfl, M2, hrow4, pm2, sm2, hk4⟩
     have HF := Lib.hid (And.intro hrow4 (And.intro pm2 (And.intro sm2 (HC3.out.2.1.trans hk4))))
     clear hrow4 pm2 sm2 hk4
     go_wp2_with fail
     go_end0
     exact ⟨rfl, M1 ++ M2, by have h := HF.out.1; simp only [zH] at h ⊢; exact h, perm4 HC3.out.2.2.1 HF.out.2.1, merge_join HSo.out.1 HSo.out.2.1 HJ.out.1 HJ.out.2 HC3.out.2.2.1 HF.out.2.1 HC3.out.2.2.2 HF.out.2.2.1, HF.out.2.2.2⟩
    ·have s1 : decide (j < m) = true := decide_eq_true (by omega)
     have s2 : decide (m < e) = true := decide_eq_true (by omega)
     have s3 : decide (a < j) = false := decide_eq_false (by omega)
     have s4 : decide (j < d) = true := decide_eq_true (by omega)
     have s5 : decide (d < e) = true := decide_eq_true (by omega)
     have s6 : decide (e < b) = false := decide_eq_false (by omega)
     have hLn : L1.length + L2.length = la := by omega
     have hRn : R1.length + R2.length = lb := by omega
     have nL1 : L1 = [] := List.length_eq_zero_iff.mp (by omega)
     have nL2 : L2 ≠ [] := List.length_pos_iff.mp (by omega)
     have nR1 : R1 ≠ [] := List.length_pos_iff.mp (by omega)
     have nR2 : R2 = [] := List.length_eq_zero_iff.mp (by omega)
     have hlen : P.length + (L1.length + (R1.length + (L2.length + (R2.length + S.length)))) = n := by omega
     have p1 : (P ++ L1).length = j := by rw [zG]; omega
     have p2 : j + L2.length = m := by omega
     have p3 : m + R1.length = e := by omega
     have hc1 := rotate_any g n c (.func (.func 49) #[] #[]) (P ++ L1) L2 R1 (R2 ++ S) wr (by have h := HW.out.1; simp only [zH] at h ⊢; exact h) (by simp only [zG]; omega) hn nL2 nR1
     rw [p1, p2, p3] at hc1
     have HC1 := Lib.hid hc1
     clear hc1
     go_wp2_with fail
     refine HC1.out.mono ?_
     rintro e0 w2 ⟨rfl, hrow2, hk2⟩
     have hrow2 : PcRow w2 g (P ++ (L1 ++ (R1 ++ (L2 ++ (R2 ++ S))))) := by simpa only [zH] using hrow2
     have hK2 := HW.out.2.trans hk2
     clear hk2
     obtain ⟨M1, hM1⟩ : ∃ M1, M1 = L1 ++ R1 := ⟨_, rfl⟩
     have pm1 : M1.Perm (L1 ++ R1) := by rw [hM1]
     have sm1 : SortedP M1 := by rw [hM1, nL1, List.nil_append]; exact sorted_l HSo.out.2.1
     have hrow3 : PcRow w2 g (P ++ (M1 ++ (L2 ++ (R2 ++ S)))) := by rw [hM1]; simpa only [zH] using hrow2
     have hK3 := hK2
     clear hrow2 hK2 hM1
     have hM1l : M1.length = L1.length + R1.length := by rw [pm1.length_eq, zG]
     have HF := Lib.hid (And.intro hrow3 (And.intro pm1 (And.intro sm1 hK3)))
     clear hrow3 pm1 sm1 hK3
     go_wp2_with fail
     go_end0
     have sm2 : SortedP (L2 ++ R2) := by rw [nR2, List.append_nil]; exact sorted_r HSo.out.1
     exact ⟨rfl, M1 ++ (L2 ++ R2), by have h := HF.out.1; simp only [zH] at h ⊢; exact h, perm4 HF.out.2.1 (List.Perm.refl _), merge_join HSo.out.1 HSo.out.2.1 HJ.out.1 HJ.out.2 HF.out.2.1 (List.Perm.refl _) HF.out.2.2.1 sm2, HF.out.2.2.2⟩
   ·rcases (show v = 0 ∨ (v ≠ 0 ∧ v ≠ lb) ∨ v = lb by omega) with cv | cv | cv
    ·have s1 : decide (j < m) = true := decide_eq_true (by omega)
     have s2 : decide (m < e) = false := decide_eq_false (by omega)
     have s3 : decide (a < j) = true := decide_eq_true (by omega)
     have s4 : decide (j < d) = false := decide_eq_false (by omega)
     have s5 : decide (d < e) = true := decide_eq_true (by omega)
     have s6 : decide (e < b) = true := decide_eq_true (by omega)
     have hLn : L1.length + L2.length = la := by omega
     have hRn : R1.length + R2.length = lb := by omega
     have nL1 : L1 ≠ [] := List.length_pos_iff.mp (by omega)
     have nL2 : L2 ≠ [] := List.length_pos_iff.mp (by omega)
     have nR1 : R1 = [] := List.length_eq_zero_iff.mp (by omega)
     have nR2 : R2 ≠ [] := List.length_pos_iff.mp (by omega)
     have hlen : P.length + (L1.length + (R1.length + (L2.length + (R2.length + S.length)))) = n := by omega
     have p1 : (P ++ L1).length = j := by rw [zG]; omega
     have p2 : j + L2.length = m := by omega
     have p3 : m + R1.length = e := by omega
     have hrow2 : PcRow wr g (P ++ (L1 ++ (R1 ++ (L2 ++ (R2 ++ S))))) := by have h := HW.out.1; rw [nR1] at h ⊢; simp only [zH, List.nil_append, List.append_nil] at h ⊢; exact h
     have hK2 := HW.out.2
     obtain ⟨M1, hM1⟩ : ∃ M1, M1 = L1 ++ R1 := ⟨_, rfl⟩
     have pm1 : M1.Perm (L1 ++ R1) := by rw [hM1]
     have sm1 : SortedP M1 := by rw [hM1, nR1, List.append_nil]; exact sorted_l HSo.out.1
     have hrow3 : PcRow wr g (P ++ (M1 ++ (L2 ++ (R2 ++ S)))) := by rw [hM1]; simpa only [zH] using hrow2
     have hK3 := hK2
     clear hrow2 hK2 hM1
     have hM1l : M1.length = L1.length + R1.length := by rw [pm1.length_eq, zG]
     have hc3 := HI.out (P ++ M1) L2 R2 S wr (by omega) nL2 nR2 (sorted_r HSo.out.1) (sorted_r HSo.out.2.1) (older_sub HSo.out.2.2 (fun x hx => List.mem_append_right _ hx) (fun x hx => List.mem_append_right _ hx)) (by simpa only [zH] using hrow3) (by simp only [zG]; omega)
     rw [show (P ++ M1).length = d by rw [zG]; omega, show d + L2.length = e by omega, show e + R2.length = b by omega] at hc3
     have HC3 := Lib.hid (And.intro hc3 (And.intro hK3 (And.intro pm1 sm1)))
     clear hc3 hrow3 hK3 pm1 sm1
     go_wp2_with fail
     refine HC3.out.1.mono ?_
     rintro e0 w4 ⟨rfl, M2, hrow4, pm2, sm2, hk4⟩
     have HF := Lib.hid (And.intro hrow4 (And.intro pm2 (And.intro sm2 (HC3.out.2.1.trans hk4))))
     clear hrow4 pm2 sm2 hk4
     go_wp2_with fail
     go_end0
     exact ⟨rfl, M1 ++ M2, by have h := HF.out.1; simp only [zH] at h ⊢; exact h, perm4 HC3.out.2.2.1 HF.out.2.1, merge_join HSo.out.1 HSo.out.2.1 HJ.out.1 HJ.out.2 HC3.out.2.2.1 HF.out.2.1 HC3.out.2.2.2 HF.out.2.2.1, HF.out.2.2.2⟩
    ·have s1 : decide (j < m) = true := decide_eq_true (by omega)
     have s2 : decide (m < e) = true := decide_eq_true (by omega)
     have s3 : decide (a < j) = true := decide_eq_true (by omega)
     have s4 : decide (j < d) = true := decide_eq_true (by omega)
     have s5 : decide (d < e) = true := decide_eq_true (by omega)
     have s6 : decide (e < b) = true := decide_eq_true (by omega)
     have hLn : L1.length + L2.length = la := by omega
     have hRn : R1.length + R2.length = lb := by omega
     have nL1 : L1 ≠ [] := List.length_pos_iff.mp (by omega)
     have nL2 : L2 ≠ [] := List.length_pos_iff.mp (by omega)
     have nR1 : R1 ≠ [] := List.length_pos_iff.mp (by omega)
     have nR2 : R2 ≠ [] := List.length_pos_iff.mp (by omega)
     have hlen : P.length + (L1.length + (R1.length + (L2.length + (R2.length + S.length)))) = n := by omega
     have p1 : (P ++ L1).length = j := by rw [zG]; omega
     have p2 : j + L2.length = m := by omega
     have p3 : m + R1.length = e := by omega
     have hc1 := rotate_any g n c (.func (.func 49) #[] #[]) (P ++ L1) L2 R1 (R2 ++ S) wr (by have h := HW.out.1; simp only [zH] at h ⊢; exact h) (by simp only [zG]; omega) hn nL2 nR1
     rw [p1, p2, p3] at hc1
     have HC1 := Lib.hid hc1
     clear hc1
     go_wp2_with fail
     refine HC1.out.mono ?_
     rintro e0 w2 ⟨rfl, hrow2, hk2⟩
     have hrow2 : PcRow w2 g (P ++ (L1 ++ (R1 ++ (L2 ++ (R2 ++ S))))) := by simpa only [zH] using hrow2
     have hK2 := HW.out.2.trans hk2
     clear hk2
     have hc2 := HI.out P L1 R1 (L2 ++ (R2 ++ S)) w2 (by omega) nL1 nR1 (sorted_l HSo.out.1) (sorted_l HSo.out.2.1) (older_sub HSo.out.2.2 (fun x hx => List.mem_append_left _ hx) (fun x hx => List.mem_append_left _ hx)) hrow2 (by simp only [zG]; omega)
     rw [show P.length + L1.length + R1.length = d by omega, show P.length + L1.length = j by omega, ha] at hc2
     have HC2 := Lib.hid (And.intro hc2 hK2)
     clear hc2 hrow2 hK2
     go_wp2_with fail
     refine HC2.out.1.mono ?_
     rintro e0 w3 ⟨rfl, M1, hrow3, pm1, sm1, hk3⟩
     have hK3 := HC2.out.2.trans hk3
     clear hk3
     have hM1l : M1.length = L1.length + R1.length := by rw [pm1.length_eq, zG]
     have hc3 := HI.out (P ++ M1) L2 R2 S w3 (by omega) nL2 nR2 (sorted_r HSo.out.1) (sorted_r HSo.out.2.1) (older_sub HSo.out.2.2 (fun x hx => List.mem_append_right _ hx) (fun x hx => List.mem_append_right _ hx)) (by simpa only [zH] using hrow3) (by simp only [zG]; omega)
     rw [show (P ++ M1).length = d by rw [zG]; omega, show d + L2.length = e by omega, show e + R2.length = b by omega] at hc3
     have HC3 := Lib.hid (And.intro hc3 (And.intro hK3 (And.intro pm1 sm1)))
     clear hc3 hrow3 hK3 pm1 sm1
     go_wp2_with fail
     refine HC3.out.1.mono ?_
     rintro e0 w4 ⟨rfl, M2, hrow4, pm2, sm2, hk4⟩
     have HF := Lib.hid (And.intro hrow4 (And.intro pm2 (And.intro sm2 (HC3.out.2.1.trans hk4))))
     clear hrow4 pm2 sm2 hk4
     go_wp2_with fail
     go_end0
     exact ⟨rfl, M1 ++ M2, by have h := HF.out.1; simp only [zH] at h ⊢; exact h, perm4 HC3.out.2.2.1 HF.out.2.1, merge_join HSo.out.1 HSo.out.2.1 HJ.out.1 HJ.out.2 HC3.out.2.2.1 HF.out.2.1 HC3.out.2.2.2 HF.out.2.2.1, HF.out.2.2.2⟩
    ·have s1 : decide (j < m) = true := decide_eq_true (by omega)
     have s2 : decide (m < e) = true := decide_eq_true (by omega)
     have s3 : decide (a < j) = true := decide_eq_true (by omega)
     have s4 : decide (j < d) = true := decide_eq_true (by omega)
     have s5 : decide (d < e) = true := decide_eq_true (by omega)
     have s6 : decide (e < b) = false := decide_eq_false (by omega)
     have hLn : L1.length + L2.length = la := by omega
     have hRn : R1.length + R2.length = lb := by omega
     have nL1 : L1 ≠ [] := List.length_pos_iff.mp (by omega)
     have nL2 : L2 ≠ [] := List.length_pos_iff.mp (by omega)
     have nR1 : R1 ≠ [] := List.length_pos_iff.mp (by omega)
     have nR2 : R2 = [] := List.length_eq_zero_iff.mp (by omega)
     have hlen : P.length + (L1.length + (R1.length + (L2.length + (R2.length + S.length)))) = n := by omega
     have p1 : (P ++ L1).length = j := by rw [zG]; omega
     have p2 : j + L2.length = m := by omega
     have p3 : m + R1.length = e := by omega
     have hc1 := rotate_any g n c (.func (.func 49) #[] #[]) (P ++ L1) L2 R1 (R2 ++ S) wr (by have h := HW.out.1; simp only [zH] at h ⊢; exact h) (by simp only [zG]; omega) hn nL2 nR1
     rw [p1, p2, p3] at hc1
     have HC1 := Lib.hid hc1
     clear hc1
     go_wp2_with fail
     refine HC1.out.mono ?_
     rintro e0 w2 ⟨rfl, hrow2, hk2⟩
     have hrow2 : PcRow w2 g (P ++ (L1 ++ (R1 ++ (L2 ++ (R2 ++ S))))) := by simpa only [zH] using hrow2
     have hK2 := HW.out.2.trans hk2
     clear hk2
     have hc2 := HI.out P L1 R1 (L2 ++ (R2 ++ S)) w2 (by omega) nL1 nR1 (sorted_l HSo.out.1) (sorted_l HSo.out.2.1) (older_sub HSo.out.2.2 (fun x hx => List.mem_append_left _ hx) (fun x hx => List.mem_append_left _ hx)) hrow2 (by simp only [zG]; omega)
     rw [show P.length + L1.length + R1.length = d by omega, show P.length + L1.length = j by omega, ha] at hc2
     have HC2 := Lib.hid (And.intro hc2 hK2)
     clear hc2 hrow2 hK2
     go_wp2_with fail
     refine HC2.out.1.mono ?_
     rintro e0 w3 ⟨rfl, M1, hrow3, pm1, sm1, hk3⟩
     have hK3 := HC2.out.2.trans hk3
     clear hk3
     have hM1l : M1.length = L1.length + R1.length := by rw [pm1.length_eq, zG]
     have HF := Lib.hid (And.intro hrow3 (And.intro pm1 (And.intro sm1 hK3)))
     clear hrow3 pm1 sm1 hK3
     go_wp2_with fail
     go_end0
     have sm2 : SortedP (L2 ++ R2) := by rw [nR2, List.append_nil]; exact sorted_r HSo.out.1
     exact ⟨rfl, M1 ++ (L2 ++ R2), by have h := HF.out.1; simp only [zH] at h ⊢; exact h, perm4 HF.out.2.1 (List.Perm.refl _), merge_join HSo.out.1 HSo.out.2.1 HJ.out.1 HJ.out.2 HF.out.2.1 (List.Perm.refl _) HF.out.2.2.1 sm2, HF.out.2.2.2⟩
   ·rcases (show v = 0 ∨ (v ≠ 0 ∧ v ≠ lb) ∨ v = lb by omega) with cv | cv | cv
    ·have s1 : decide (j < m) = false := decide_eq_false (by omega)
     have s2 : decide (m < e) = false := decide_eq_false (by omega)
     have s3 : decide (a < j) = true := decide_eq_true (by omega)
     have s4 : decide (j < d) = false := decide_eq_false (by omega)
     have s5 : decide (d < e) = false := decide_eq_false (by omega)
     have s6 : decide (e < b) = true := decide_eq_true (by omega)
     have hLn : L1.length + L2.length = la := by omega
     have hRn : R1.length + R2.length = lb := by omega
     have nL1 : L1 ≠ [] := List.length_pos_iff.mp (by omega)
     have nL2 : L2 = [] := List.length_eq_zero_iff.mp (by omega)
     have nR1 : R1 = [] := List.length_eq_zero_iff.mp (by omega)
     have nR2 : R2 ≠ [] := List.length_pos_iff.mp (by omega)
     have hlen : P.length + (L1.length + (R1.length + (L2.length + (R2.length + S.length)))) = n := by omega
     have p1 : (P ++ L1).length = j := by rw [zG]; omega
     have p2 : j + L2.length = m := by omega
     have p3 : m + R1.length = e := by omega
     have hrow2 : PcRow wr g (P ++ (L1 ++ (R1 ++ (L2 ++ (R2 ++ S))))) := by have h := HW.out.1; rw [nL2] at h ⊢; simp only [zH, List.nil_append, List.append_nil] at h ⊢; exact h
     have hK2 := HW.out.2
     obtain ⟨M1, hM1⟩ : ∃ M1, M1 = L1 ++ R1 := ⟨_, rfl⟩
     have pm1 : M1.Perm (L1 ++ R1) := by rw [hM1]
     have sm1 : SortedP M1 := by rw [hM1, nR1, List.append_nil]; exact sorted_l HSo.out.1
     have hrow3 : PcRow wr g (P ++ (M1 ++ (L2 ++ (R2 ++ S)))) := by rw [hM1]; simpa only [zH] using hrow2
     have hK3 := hK2
     clear hrow2 hK2 hM1
     have hM1l : M1.length = L1.length + R1.length := by rw [pm1.length_eq, zG]
     have HF := Lib.hid (And.intro hrow3 (And.intro pm1 (And.intro sm1 hK3)))
     clear hrow3 pm1 sm1 hK3
     go_wp2_with fail
     go_end0
     have sm2 : SortedP (L2 ++ R2) := by rw [nL2, List.nil_append]; exact sorted_r HSo.out.2.1
     exact ⟨rfl, M1 ++ (L2 ++ R2), by have h := HF.out.1; simp only [zH] at h ⊢; exact h, perm4 HF.out.2.1 (List.Perm.refl _), merge_join HSo.out.1 HSo.out.2.1 HJ.out.1 HJ.out.2 HF.out.2.1 (List.Perm.refl _) HF.out.2.2.1 sm2, HF.out.2.2.2⟩
    ·have s1 : decide (j < m) = false := decide_eq_false (by omega)
     have s2 : decide (m < e) = true := decide_eq_true (by omega)
     have s3 : decide (a < j) = true := decide_eq_true (by omega)
     have s4 : decide (j < d) = true := decide_eq_true (by omega)
     have s5 : decide (d < e) = false := decide_eq_false (by omega)
     have s6 : decide (e < b) = true := decide_eq_true (by omega)
     have hLn : L1.length + L2.length = la := by omega
     have hRn : R1.length + R2.length = lb := by omega
     have nL1 : L1 ≠ [] := List.length_pos_iff.mp (by omega)
     have nL2 : L2 = [] := List.length_eq_zero_iff.mp (by omega)
     have nR1 : R1 ≠ [] := List.length_pos_iff.mp (by omega)
     have nR2 : R2 ≠ [] := List.length_pos_iff.mp (by omega)
     have hlen : P.length + (L1.length + (R1.length + (L2.length + (R2.length + S.length)))) = n := by omega
     have p1 : (P ++ L1).length = j := by rw [zG]; omega
     have p2 : j + L2.length = m := by omega
     have p3 : m + R1.length = e := by omega
     have hrow2 : PcRow wr g (P ++ (L1 ++ (R1 ++ (L2 ++ (R2 ++ S))))) := by have h := HW.out.1; rw [nL2] at h ⊢; simp only [zH, List.nil_append, List.append_nil] at h ⊢; exact h
     have hK2 := HW.out.2
     have hc2 := HI.out P L1 R1 (L2 ++ (R2 ++ S)) wr (by omega) nL1 nR1 (sorted_l HSo.out.1) (sorted_l HSo.out.2.1) (older_sub HSo.out.2.2 (fun x hx => List.mem_append_left _ hx) (fun x hx => List.mem_append_left _ hx)) hrow2 (by simp only [zG]; omega)
     rw [show P.length + L1.length + R1.length = d by omega, show P.length + L1.length = j by omega, ha] at hc2
     have HC2 := Lib.hid (And.intro hc2 hK2)
     clear hc2 hrow2 hK2
     go_wp2_with fail
     refine HC2.out.1.mono ?_
     rintro e0 w3 ⟨rfl, M1, hrow3, pm1, sm1, hk3⟩
     have hK3 := HC2.out.2.trans hk3
     clear hk3
     have hM1l : M1.length = L1.length + R1.length := by rw [pm1.length_eq, zG]
     have HF := Lib.hid (And.intro hrow3 (And.intro pm1 (And.intro sm1 hK3)))
     clear hrow3 pm1 sm1 hK3
     go_wp2_with fail
     go_end0
     have sm2 : SortedP (L2 ++ R2) := by rw [nL2, List.nil_append]; exact sorted_r HSo.out.2.1
     exact ⟨rfl, M1 ++ (L2 ++ R2), by have h := HF.out.1; simp only [zH] at h ⊢; exact h, perm4 HF.out.2.1 (List.Perm.refl _), merge_join HSo.out.1 HSo.out.2.1 HJ.out.1 HJ.out.2 HF.out.2.1 (List.Perm.refl _) HF.out.2.2.1 sm2, HF.out.2.2.2⟩
    ·exfalso; omega
theorem sym_3b (g n c : Nat) (P L R S : List Pc) (w : World) (a m b d : Nat) (ha : P.length = a) (hm : a + L.length = m) (hb : m + R.length = b) (hd : (a + b) / 2 = d) (hmid : m ≤ d) (IH : SymC g n c (L.length + R.length - 1)) (hR : PcRow w g (P ++ (L ++ (R ++ S)))) (hl : a + (L.length + (R.length + S.length)) = n) (hn : n ≤ 1000) (hL2 : 2 ≤ L.length) (hR2 : 2 ≤ R.length) (hsL : SortedP L) (hsR : SortedP R) (ho : Older L R) :
  Calls Tryd.prog 121 #[.slice (some ⟨g, 0, none⟩) n c, .int .i64 a, .int .i64 m, .int .i64 b, (.func (.func 49) #[] #[])] w (SymPost g P L R S w) := by
 have HR := Lib.hid hR
 have HS := Lib.hid (And.intro hsL (And.intro hsR ho))
 have HI := Lib.hid IH
 have HC := Lib.hid (fun (x y : Pc) (V : World) => pcmp_any y x V)
 have hgl0 := hR.1
 have HRowL := Lib.hid (fun (h : Nat) (x : Pc) (hx : L[h]? = some x) => hR.2.2 (a + h) x (by
  have := get_in (P := P) (T := R ++ S) hx
  rwa [ha] at this))
 have HRowR := Lib.hid (fun (h : Nat) (x : Pc) (hx : R[h]? = some x) => hR.2.2 (m + h) x (by
  have := get_in (P := P ++ L) (T := S) hx
  rw [zG, ha, hm] at this
  simpa only [zH] using this))
 obtain ⟨la, hla⟩ : ∃ la, L.length = la := ⟨_, rfl⟩
 obtain ⟨lb, hlb⟩ : ∃ lb, R.length = lb := ⟨_, rfl⟩
 obtain ⟨nn, hnn⟩ : ∃ nn, d + m = nn := ⟨_, rfl⟩
 obtain ⟨lo, hlo0⟩ : ∃ lo, a = lo := ⟨_, rfl⟩
 obtain ⟨hi, hhi0⟩ : ∃ hi, m = hi := ⟨_, rfl⟩
 rw [hla, hlb] at hl HI
 rw [hla] at hm hL2
 rw [hlb] at hb hR2
 have k1 : (m : Int) - (a : Int) = (la : Int) := by omega
 have k1n : ((la : Int) == 1) = false := by simp; omega
 have k2 : (b : Int) - (m : Int) = (lb : Int) := by omega
 have k2n : ((lb : Int) == 1) = false := by simp; omega
 have k3 : ((a : Int) + (b : Int)) / 2 = (d : Int) := by omega
 have k4 : (d : Int) + (m : Int) = (nn : Int) := by omega
 have k5 : (nn : Int) - 1 = ((nn - 1 : Nat) : Int) := by omega
 obtain ⟨p, hp⟩ : ∃ p, nn - 1 = p := ⟨_, rfl⟩
 rw [hp] at k5
 have b1 : lo ≤ hi := by omega
 have b2 : a ≤ lo := by omega
 have b3 : hi ≤ m := by omega
 have b4 : hi ≤ d := by omega
 have b5 : nn ≤ lo + b := by omega
 have b6 : a < d := by omega
 have b7 : d < b := by omega
 have HLO := Lib.hid hlo0
 have HHI := Lib.hid hhi0
 have HNN := Lib.hid hnn
 have HD := Lib.hid hd
 have k7 : decide ((d : Int) < (m : Int)) = false := decide_eq_false (by omega)
 have k7n : decide (d < m) = false := decide_eq_false (by omega)
 subst hhi0 hlo0
 clear hR hsL hsR ho IH hd
 go_in
 go_wp2_with fail
 go_loopw [20, 21] (fun u v wr => ∃ i j : Nat, u = .int .i64 i ∧ v = .int .i64 j ∧ a ≤ i ∧ i ≤ j ∧ j ≤ m ∧ (i = a ∨ ∃ x y, L[i - 1 - a]? = some x ∧ R[nn - i - m]? = some y ∧ x.at_ ≤ y.at_) ∧ (j = m ∨ ∃ x y, L[j - a]? = some x ∧ R[nn - 1 - j - m]? = some y ∧ y.at_ < x.at_) ∧ Below w.heap.size w wr) (fun u v _ => (intOf v).toNat - (intOf u).toNat)
 case atStart => exact ⟨a, m, rfl, rfl, by omega, by omega, by omega, Or.inl rfl, Or.inl rfl, Below.refl _ _⟩
 case round =>
  obtain ⟨i, j, rfl, rfl, hi, hij, hj, hlo, hhi, hB⟩ := hrel
  by_cases hlt : i < j
  ·have d1 : decide ((i : Int) < (j : Int)) = true := decide_eq_true (by omega)
   have d1n : decide (i < j) = true := decide_eq_true (by omega)
   obtain ⟨h1, h2⟩ := half_of hlt
   obtain ⟨h, hh⟩ : ∃ h, (i + j) / 2 = h := ⟨_, rfl⟩
   rw [hh] at h1 h2
   obtain ⟨q, hqd⟩ : ∃ q, p - h = q := ⟨_, rfl⟩
   have hq1 : m ≤ q := by omega
   have hq2 : q < b := by omega
   obtain ⟨x, hx⟩ : ∃ x, L[h - a]? = some x := ⟨_, List.getElem?_eq_getElem (by omega)⟩
   obtain ⟨y, hy⟩ : ∃ y, R[q - m]? = some y := ⟨_, List.getElem?_eq_getElem (by omega)⟩
   have hcx := HRowL.out (h - a) x hx
   rw [show a + (h - a) = h by omega] at hcx
   have hcy := HRowR.out (q - m) y hy
   rw [show m + (q - m) = q by omega] at hcy
   have hgl : g < wr.heap.size := Nat.lt_of_lt_of_le hgl0 hB.size
   have cx0 := (hB.cell (p := ⟨g, h * 2, none⟩) hgl0).trans hcx.1
   have cx1 := (hB.cell (p := ⟨g, h * 2 + 1, none⟩) hgl0).trans hcx.2
   have cy0 := (hB.cell (p := ⟨g, q * 2, none⟩) hgl0).trans hcy.1
   have cy1 := (hB.cell (p := ⟨g, q * 2 + 1, none⟩) hgl0).trans hcy.2
   have hhI : ((i : Int) + (j : Int)) / 2 = (h : Int) := by omega
   have hqI : (p : Int) - (h : Int) = (q : Int) := by omega
   have hhn : h < n := by omega
   have hqn : q < n := by omega
   have d6 : IntKind.i64.wrap (q : Int) = (q : Int) := by rw [IntKind.wrap_i64]; omega
   have e1 : L[h + 1 - 1 - a]? = some x := by rw [show h + 1 - 1 - a = h - a by omega]; exact hx
   have e2 : R[nn - (h + 1) - m]? = some y := by rw [show nn - (h + 1) - m = q - m by omega]; exact hy
   have e3 : R[nn - 1 - h - m]? = some y := by rw [show nn - 1 - h - m = q - m by omega]; exact hy
   have HL := Lib.hid (And.intro hlo (And.intro hhi (And.intro hB (And.intro hx (And.intro e1 (And.intro e2 e3))))))
   have HCy := Lib.hid (HC.out x y)
   unfold Pc.v at HCy
   clear hlo hhi hB hh hcx hcy hx hy e1 e2 e3 hqd
   by_cases hq : y.at_ < x.at_
   ·rw [cmpI_neg hq] at HCy
    go_wp2_with fail
    obtain ⟨wd35, hwd35⟩ : ∃ W : World, wr.drew = W := ⟨_, rfl⟩
    have hS := zB3 hwd35
    refine wp_region_held (S := Below wr.heap.size wr) (by kernel_rfl) ?_
    change wpAnyH _ _ _ _ _ _ _ _ wr.drew
    rw [hwd35]
    clear hwd35
    refine zU 0 rfl hS ?_
    refine zU 1 rfl hS ?_
    refine zU 2 rfl hS ?_
    refine zU 3 rfl hS ?_
    refine zU 4 rfl hS ?_
    refine zU 5 rfl hS ?_
    refine zU 6 rfl hS ?_ (hy := fun W hH => by
     have q0 := (hH.cell (p := ⟨g, h * 2, none⟩) hgl).trans cx0
     have q1 := (hH.cell (p := ⟨g, h * 2 + 1, none⟩) hgl).trans cx1
     have q2 := (hH.cell (p := ⟨g, q * 2, none⟩) hgl).trans cy0
     have q3 := (hH.cell (p := ⟨g, q * 2 + 1, none⟩) hgl).trans cy1
     go_simp
     with_reducible rfl)
    refine zU 7 rfl hS ?_
    refine zU 8 rfl hS ?_
    refine zU 9 rfl hS ?_
    refine zU 10 rfl hS ?_ (hy := fun W hH => by
     have q0 := (hH.cell (p := ⟨g, h * 2, none⟩) hgl).trans cx0
     have q1 := (hH.cell (p := ⟨g, h * 2 + 1, none⟩) hgl).trans cx1
     have q2 := (hH.cell (p := ⟨g, q * 2, none⟩) hgl).trans cy0
     have q3 := (hH.cell (p := ⟨g, q * 2 + 1, none⟩) hgl).trans cy1
     go_simp
     with_reducible rfl)
    refine zR 11 rfl (fun K' hK' => ?_)
    go_simp
    refine (HCy.out _).mono ?_
    rintro e w1 ⟨rfl, hb1⟩
    have hS1 := hS.trans (hb1.mono hS.size)
    go_simp
    refine hK'.out _ _ hS1 (fun hS => ?_)
    clear hK' K'
    refine zU 12 rfl hS ?_
    refine zU 13 rfl hS ?_
    refine wpAnyH_done (by kernel_rfl) ?_ _
    have HB1 := Lib.hid (HL.out.2.2.1.trans (hS.mono HL.out.2.2.1.size))
    clear hS d6
    go_wp2_with fail
    go_roundw
    case rel => exact ⟨i, h, by go_num, by go_num, hi, by omega, by omega, HL.out.1, Or.inr ⟨x, y, HL.out.2.2.2.1, HL.out.2.2.2.2.2.2, hq⟩, HB1.out⟩
    case measure => simp [intOf]; omega
   ·have d3 := cmpI_pos hq
    obtain ⟨cv, hcv⟩ : ∃ v, cmpI y.at_ x.at_ = v := ⟨_, rfl⟩
    rw [hcv] at HCy d3
    clear hcv
    go_wp2_with fail
    obtain ⟨wd35, hwd35⟩ : ∃ W : World, wr.drew = W := ⟨_, rfl⟩
    have hS := zB3 hwd35
    refine wp_region_held (S := Below wr.heap.size wr) (by kernel_rfl) ?_
    change wpAnyH _ _ _ _ _ _ _ _ wr.drew
    rw [hwd35]
    clear hwd35
    refine zU 0 rfl hS ?_
    refine zU 1 rfl hS ?_
    refine zU 2 rfl hS ?_
    refine zU 3 rfl hS ?_
    refine zU 4 rfl hS ?_
    refine zU 5 rfl hS ?_
    refine zU 6 rfl hS ?_ (hy := fun W hH => by
     have q0 := (hH.cell (p := ⟨g, h * 2, none⟩) hgl).trans cx0
     have q1 := (hH.cell (p := ⟨g, h * 2 + 1, none⟩) hgl).trans cx1
     have q2 := (hH.cell (p := ⟨g, q * 2, none⟩) hgl).trans cy0
     have q3 := (hH.cell (p := ⟨g, q * 2 + 1, none⟩) hgl).trans cy1
     go_simp
     with_reducible rfl)
    refine zU 7 rfl hS ?_
    refine zU 8 rfl hS ?_
    refine zU 9 rfl hS ?_
    refine zU 10 rfl hS ?_ (hy := fun W hH => by
     have q0 := (hH.cell (p := ⟨g, h * 2, none⟩) hgl).trans cx0
     have q1 := (hH.cell (p := ⟨g, h * 2 + 1, none⟩) hgl).trans cx1
     have q2 := (hH.cell (p := ⟨g, q * 2, none⟩) hgl).trans cy0
     have q3 := (hH.cell (p := ⟨g, q * 2 + 1, none⟩) hgl).trans cy1
     go_simp
     with_reducible rfl)
    refine zR 11 rfl (fun K' hK' => ?_)
    go_simp
    refine (HCy.out _).mono ?_
    rintro e w1 ⟨rfl, hb1⟩
    have hS1 := hS.trans (hb1.mono hS.size)
    go_simp
    refine hK'.out _ _ hS1 (fun hS => ?_)
    clear hK' K'
    refine zU 12 rfl hS ?_
    refine zU 13 rfl hS ?_
    refine wpAnyH_done (by kernel_rfl) ?_ _
    have HB1 := Lib.hid (HL.out.2.2.1.trans (hS.mono HL.out.2.2.1.size))
    clear hS d6
    go_wp2_with fail
    go_roundw
    case rel => exact ⟨h + 1, j, by go_num, by go_num, by omega, by omega, hj, Or.inr ⟨x, y, HL.out.2.2.2.2.1, HL.out.2.2.2.2.2.1, by omega⟩, HL.out.2.1, HB1.out⟩
    case measure => simp [intOf]; omega
  ·have d1 : decide ((i : Int) < (j : Int)) = false := decide_eq_false (by omega)
   have d1n : decide (i < j) = false := decide_eq_false (by omega)
   obtain rfl : j = i := by omega
   obtain ⟨u, hu⟩ : ∃ u, a + u = j := ⟨j - a, by omega⟩
   obtain ⟨v, hv⟩ : ∃ v, j + v = d := ⟨d - j, by omega⟩
   obtain ⟨e, he⟩ : ∃ e, m + v = e := ⟨_, rfl⟩
   have hul : u ≤ la := by omega
   have hvl : v ≤ lb := by omega
   have e1 : (nn : Int) - (j : Int) = (e : Int) := by omega
   have hso := HS.out
   have hLo := HLO.out
   have hHi := HHI.out
   have j1 : L.take u = [] ∨ R.drop v = [] ∨ ∃ x y A' B', L.take u = A' ++ [x] ∧ R.drop v = y :: B' ∧ ltP x y := by
    by_cases hu0 : u = 0
    ·exact Or.inl (by rw [hu0]; rfl)
    ·rcases hlo with h | ⟨x, y, hx, hy, hxy⟩
     ·exact Or.inr (Or.inl (List.drop_eq_nil_of_le (by omega)))
     ·rw [show j - 1 - a = u - 1 by omega] at hx
      rw [show nn - j - m = v by omega] at hy
      refine Or.inr (Or.inr ⟨x, y, L.take (u - 1), R.drop (v + 1), ?_, drop_cons hy, lt_of_older (hso.2.2 x (List.mem_of_getElem? hx) y (List.mem_of_getElem? hy)) (by omega)⟩)
      have := last_take hx
      rwa [show u - 1 + 1 = u by omega] at this
   have j2 : L.drop u = [] ∨ R.take v = [] ∨ ∃ x y A' B', R.take v = A' ++ [x] ∧ L.drop u = y :: B' ∧ ltP x y := by
    by_cases hv0 : v = 0
    ·exact Or.inr (Or.inl (by rw [hv0]; rfl))
    ·rcases hhi with h | ⟨x, y, hx, hy, hxy⟩
     ·exact Or.inl (List.drop_eq_nil_of_le (by omega))
     ·rw [show j - a = u by omega] at hx
      rw [show nn - 1 - j - m = v - 1 by omega] at hy
      refine Or.inr (Or.inr ⟨y, x, R.take (v - 1), L.drop (u + 1), ?_, drop_cons hx, lt_of_at hxy⟩)
      have := last_take hy
      rwa [show v - 1 + 1 = v by omega] at this
   have tL : L.take u ++ L.drop u = L := List.take_append_drop _ _
   have tR : R.take v ++ R.drop v = R := List.take_append_drop _ _
   have q1 : (L.take u).length = u := by rw [List.length_take]; omega
   have q2 : (R.take v).length = v := by rw [List.length_take]; omega
   have q3 : (L.drop u).length = la - u := by rw [List.length_drop]; omega
   have q4 : (R.drop v).length = lb - v := by rw [List.length_drop]; omega
   obtain ⟨L1, z1⟩ : ∃ z, L.take u = z := ⟨_, rfl⟩
   obtain ⟨L2, z2⟩ : ∃ z, L.drop u = z := ⟨_, rfl⟩
   obtain ⟨R1, z3⟩ : ∃ z, R.take v = z := ⟨_, rfl⟩
   obtain ⟨R2, z4⟩ : ∃ z, R.drop v = z := ⟨_, rfl⟩
   rw [z1, z2] at tL
   rw [z3, z4] at tR
   rw [z1, z4] at j1
   rw [z2, z3] at j2
   rw [z1] at q1
   rw [z3] at q2
   rw [z2] at q3
   rw [z4] at q4
   have HJ := Lib.hid (And.intro j1 j2)
   have HW := Lib.hid (And.intro (HR.out.up (hB.mono (Nat.le_refl _))) (Kg.of_below (g := g) hB))
   subst tL tR
   have HSo := Lib.hid hso
   clear hlo hhi j1 j2 hB hso z1 z2 z3 z4 hLo hHi
   have HQ := Lib.hid (And.intro hla hlb)
   clear hla hlb HRowL HRowR HC
   rcases (show u = 0 ∨ (u ≠ 0 ∧ u ≠ la) ∨ u = la by omega) with cu | cu | cu
   ·rcases (show v = 0 ∨ (v ≠ 0 ∧ v ≠ lb) ∨ v = lb by omega) with cv | cv | cv
    ·exfalso; omega
    ·have s1 : decide (j < m) = true := decide_eq_true (by omega)
     have s2 : decide (m < e) = true := decide_eq_true (by omega)
     have s3 : decide (a < j) = false := decide_eq_false (by omega)
     have s4 : decide (j < d) = true := decide_eq_true (by omega)
     have s5 : decide (d < e) = true := decide_eq_true (by omega)
     have s6 : decide (e < b) = true := decide_eq_true (by omega)
     have hLn : L1.length + L2.length = la := by omega
     have hRn : R1.length + R2.length = lb := by omega
     have nL1 : L1 = [] := List.length_eq_zero_iff.mp (by omega)
     have nL2 : L2 ≠ [] := List.length_pos_iff.mp (by omega)
     have nR1 : R1 ≠ [] := List.length_pos_iff.mp (by omega)
     have nR2 : R2 ≠ [] := List.length_pos_iff.mp (by omega)
     have hlen : P.length + (L1.length + (R1.length + (L2.length + (R2.length + S.length)))) = n := by omega
     have p1 : (P ++ L1).length = j := by rw [zG]; omega
     have p2 : j + L2.length = m := by omega
     have p3 : m + R1.length = e := by omega
     have hc1 := rotate_any g n c (.func (.func 49) #[] #[]) (P ++ L1) L2 R1 (R2 ++ S) wr (by have h := HW.out.1; simp only [zH] at h ⊢; exact h) (by simp only [zG]; omega) hn nL2 nR1
     rw [p1, p2, p3] at hc1
     have HC1 := Lib.hid hc1
     clear hc1
     go_wp2_with fail
     refine HC1.out.mono ?_
     rintro e0 w2 ⟨rfl, hrow2, hk2⟩
     have hrow2 : PcRow w2 g (P ++ (L1 ++ (R1 ++ (L2 ++ (R2 ++ S))))) := by simpa only [zH] using hrow2
     have hK2 := HW.out.2.trans hk2
     clear hk2
     obtain ⟨M1, hM1⟩ : ∃ M1, M1 = L1 ++ R1 := ⟨_, rfl⟩
     have pm1 : M1.Perm (L1 ++ R1) := by rw [hM1]
     have sm1 : SortedP M1 := by rw [hM1, nL1, List.nil_append]; exact sorted_l HSo.out.2.1
     have hrow3 : PcRow w2 g (P ++ (M1 ++ (L2 ++ (R2 ++ S)))) := by rw [hM1]; simpa only [zH] using hrow2
     have hK3 := hK2
     clear hrow2 hK2 hM1
     have hM1l : M1.length = L1.length + R1.length := by rw [pm1.length_eq, zG]
     have hc3 := HI.out (P ++ M1) L2 R2 S w2 (by omega) nL2 nR2 (sorted_r HSo.out.1) (sorted_r HSo.out.2.1) (older_sub HSo.out.2.2 (fun x hx => List.mem_append_right _ hx) (fun x hx => List.mem_append_right _ hx)) (by simpa only [zH] using hrow3) (by simp only [zG]; omega)
     rw [show (P ++ M1).length = d by rw [zG]; omega, show d + L2.length = e by omega, show e + R2.length = b by omega] at hc3
     have HC3 := Lib.hid (And.intro hc3 (And.intro hK3 (And.intro pm1 sm1)))
     clear hc3 hrow3 hK3 pm1 sm1
     go_wp2_with fail
     refine HC3.out.1.mono ?_
     rintro e0 w4 ⟨rfl, M2, hrow4, pm2, sm2, hk4⟩
     have HF := Lib.hid (And.intro hrow4 (And.intro pm2 (And.intro sm2 (HC3.out.2.1.trans hk4))))
     clear hrow4 pm2 sm2 hk4
     go_wp2_with fail
     go_end0
     exact ⟨rfl, M1 ++ M2, by have h := HF.out.1; simp only [zH] at h ⊢; exact h, perm4 HC3.out.2.2.1 HF.out.2.1, merge_join HSo.out.1 HSo.out.2.1 HJ.out.1 HJ.out.2 HC3.out.2.2.1 HF.out.2.1 HC3.out.2.2.2 HF.out.2.2.1, HF.out.2.2.2⟩
    ·have s1 : decide (j < m) = true := decide_eq_true (by omega)
     have s2 : decide (m < e) = true := decide_eq_true (by omega)
     have s3 : decide (a < j) = false := decide_eq_false (by omega)
     have s4 : decide (j < d) = true := decide_eq_true (by omega)
     have s5 : decide (d < e) = true := decide_eq_true (by omega)
     have s6 : decide (e < b) = false := decide_eq_false (by omega)
     have hLn : L1.length + L2.length = la := by omega
     have hRn : R1.length + R2.length = lb := by omega
     have nL1 : L1 = [] := List.length_eq_zero_iff.mp (by omega)
     have nL2 : L2 ≠ [] := List.length_pos_iff.mp (by omega)
     have nR1 : R1 ≠ [] := List.length_pos_iff.mp (by omega)
     have nR2 : R2 = [] := List.length_eq_zero_iff.mp (by omega)
     have hlen : P.length + (L1.length + (R1.length + (L2.length + (R2.length + S.length)))) = n := by omega
     have p1 : (P ++ L1).length = j := by rw [zG]; omega
     have p2 : j + L2.length = m := by omega
     have p3 : m + R1.length = e := by omega
     have hc1 := rotate_any g n c (.func (.func 49) #[] #[]) (P ++ L1) L2 R1 (R2 ++ S) wr (by have h := HW.out.1; simp only [zH] at h ⊢; exact h) (by simp only [zG]; omega) hn nL2 nR1
     rw [p1, p2, p3] at hc1
     have HC1 := Lib.hid hc1
     clear hc1
     go_wp2_with fail
     refine HC1.out.mono ?_
     rintro e0 w2 ⟨rfl, hrow2, hk2⟩
     have hrow2 : PcRow w2 g (P ++ (L1 ++ (R1 ++ (L2 ++ (R2 ++ S))))) := by simpa only [zH] using hrow2
     have hK2 := HW.out.2.trans hk2
     clear hk2
     obtain ⟨M1, hM1⟩ : ∃ M1, M1 = L1 ++ R1 := ⟨_, rfl⟩
     have pm1 : M1.Perm (L1 ++ R1) := by rw [hM1]
     have sm1 : SortedP M1 := by rw [hM1, nL1, List.nil_append]; exact sorted_l HSo.out.2.1
     have hrow3 : PcRow w2 g (P ++ (M1 ++ (L2 ++ (R2 ++ S)))) := by rw [hM1]; simpa only [zH] using hrow2
     have hK3 := hK2
     clear hrow2 hK2 hM1
     have hM1l : M1.length = L1.length + R1.length := by rw [pm1.length_eq, zG]
     have HF := Lib.hid (And.intro hrow3 (And.intro pm1 (And.intro sm1 hK3)))
     clear hrow3 pm1 sm1 hK3
     go_wp2_with fail
     go_end0
     have sm2 : SortedP (L2 ++ R2) := by rw [nR2, List.append_nil]; exact sorted_r HSo.out.1
     exact ⟨rfl, M1 ++ (L2 ++ R2), by have h := HF.out.1; simp only [zH] at h ⊢; exact h, perm4 HF.out.2.1 (List.Perm.refl _), merge_join HSo.out.1 HSo.out.2.1 HJ.out.1 HJ.out.2 HF.out.2.1 (List.Perm.refl _) HF.out.2.2.1 sm2, HF.out.2.2.2⟩
   ·rcases (show v = 0 ∨ (v ≠ 0 ∧ v ≠ lb) ∨ v = lb by omega) with cv | cv | cv
    ·have s1 : decide (j < m) = true := decide_eq_true (by omega)
     have s2 : decide (m < e) = false := decide_eq_false (by omega)
     have s3 : decide (a < j) = true := decide_eq_true (by omega)
     have s4 : decide (j < d) = false := decide_eq_false (by omega)
     have s5 : decide (d < e) = true := decide_eq_true (by omega)
     have s6 : decide (e < b) = true := decide_eq_true (by omega)
     have hLn : L1.length + L2.length = la := by omega
     have hRn : R1.length + R2.length = lb := by omega
     have nL1 : L1 ≠ [] := List.length_pos_iff.mp (by omega)
     have nL2 : L2 ≠ [] := List.length_pos_iff.mp (by omega)
     have nR1 : R1 = [] := List.length_eq_zero_iff.mp (by omega)
     have nR2 : R2 ≠ [] := List.length_pos_iff.mp (by omega)
     have hlen : P.length + (L1.length + (R1.length + (L2.length + (R2.length + S.length)))) = n := by omega
     have p1 : (P ++ L1).length = j := by rw [zG]; omega
     have p2 : j + L2.length = m := by omega
     have p3 : m + R1.length = e := by omega
     have hrow2 : PcRow wr g (P ++ (L1 ++ (R1 ++ (L2 ++ (R2 ++ S))))) := by have h := HW.out.1; rw [nR1] at h ⊢; simp only [zH, List.nil_append, List.append_nil] at h ⊢; exact h
     have hK2 := HW.out.2
     obtain ⟨M1, hM1⟩ : ∃ M1, M1 = L1 ++ R1 := ⟨_, rfl⟩
     have pm1 : M1.Perm (L1 ++ R1) := by rw [hM1]
     have sm1 : SortedP M1 := by rw [hM1, nR1, List.append_nil]; exact sorted_l HSo.out.1
     have hrow3 : PcRow wr g (P ++ (M1 ++ (L2 ++ (R2 ++ S)))) := by rw [hM1]; simpa only [zH] using hrow2
     have hK3 := hK2
     clear hrow2 hK2 hM1
     have hM1l : M1.length = L1.length + R1.length := by rw [pm1.length_eq, zG]
     have hc3 := HI.out (P ++ M1) L2 R2 S wr (by omega) nL2 nR2 (sorted_r HSo.out.1) (sorted_r HSo.out.2.1) (older_sub HSo.out.2.2 (fun x hx => List.mem_append_right _ hx) (fun x hx => List.mem_append_right _ hx)) (by simpa only [zH] using hrow3) (by simp only [zG]; omega)
     rw [show (P ++ M1).length = d by rw [zG]; omega, show d + L2.length = e by omega, show e + R2.length = b by omega] at hc3
     have HC3 := Lib.hid (And.intro hc3 (And.intro hK3 (And.intro pm1 sm1)))
     clear hc3 hrow3 hK3 pm1 sm1
     go_wp2_with fail
     refine HC3.out.1.mono ?_
     rintro e0 w4 ⟨rfl, M2, hrow4, pm2, sm2, hk4⟩
     have HF := Lib.hid (And.intro hrow4 (And.intro pm2 (And.intro sm2 (HC3.out.2.1.trans hk4))))
     clear hrow4 pm2 sm2 hk4
     go_wp2_with fail
     go_end0
     exact ⟨rfl, M1 ++ M2, by have h := HF.out.1; simp only [zH] at h ⊢; exact h, perm4 HC3.out.2.2.1 HF.out.2.1, merge_join HSo.out.1 HSo.out.2.1 HJ.out.1 HJ.out.2 HC3.out.2.2.1 HF.out.2.1 HC3.out.2.2.2 HF.out.2.2.1, HF.out.2.2.2⟩
    ·have s1 : decide (j < m) = true := decide_eq_true (by omega)
     have s2 : decide (m < e) = true := decide_eq_true (by omega)
     have s3 : decide (a < j) = true := decide_eq_true (by omega)
     have s4 : decide (j < d) = true := decide_eq_true (by omega)
     have s5 : decide (d < e) = true := decide_eq_true (by omega)
     have s6 : decide (e < b) = true := decide_eq_true (by omega)
     have hLn : L1.length + L2.length = la := by omega
     have hRn : R1.length + R2.length = lb := by omega
     have nL1 : L1 ≠ [] := List.length_pos_iff.mp (by omega)
     have nL2 : L2 ≠ [] := List.length_pos_iff.mp (by omega)
     have nR1 : R1 ≠ [] := List.length_pos_iff.mp (by omega)
     have nR2 : R2 ≠ [] := List.length_pos_iff.mp (by omega)
     have hlen : P.length + (L1.length + (R1.length + (L2.length + (R2.length + S.length)))) = n := by omega
     have p1 : (P ++ L1).length = j := by rw [zG]; omega
     have p2 : j + L2.length = m := by omega
     have p3 : m + R1.length = e := by omega
     have hc1 := rotate_any g n c (.func (.func 49) #[] #[]) (P ++ L1) L2 R1 (R2 ++ S) wr (by have h := HW.out.1; simp only [zH] at h ⊢; exact h) (by simp only [zG]; omega) hn nL2 nR1
     rw [p1, p2, p3] at hc1
     have HC1 := Lib.hid hc1
     clear hc1
     go_wp2_with fail
     refine HC1.out.mono ?_
     rintro e0 w2 ⟨rfl, hrow2, hk2⟩
     have hrow2 : PcRow w2 g (P ++ (L1 ++ (R1 ++ (L2 ++ (R2 ++ S))))) := by simpa only [zH] using hrow2
     have hK2 := HW.out.2.trans hk2
     clear hk2
     have hc2 := HI.out P L1 R1 (L2 ++ (R2 ++ S)) w2 (by omega) nL1 nR1 (sorted_l HSo.out.1) (sorted_l HSo.out.2.1) (older_sub HSo.out.2.2 (fun x hx => List.mem_append_left _ hx) (fun x hx => List.mem_append_left _ hx)) hrow2 (by simp only [zG]; omega)
     rw [show P.length + L1.length + R1.length = d by omega, show P.length + L1.length = j by omega, ha] at hc2
     have HC2 := Lib.hid (And.intro hc2 hK2)
     clear hc2 hrow2 hK2
     go_wp2_with fail
     refine HC2.out.1.mono ?_
     rintro e0 w3 ⟨rfl, M1, hrow3, pm1, sm1, hk3⟩
     have hK3 := HC2.out.2.trans hk3
     clear hk3
     have hM1l : M1.length = L1.length + R1.length := by rw [pm1.length_eq, zG]
     have hc3 := HI.out (P ++ M1) L2 R2 S w3 (by omega) nL2 nR2 (sorted_r HSo.out.1) (sorted_r HSo.out.2.1) (older_sub HSo.out.2.2 (fun x hx => List.mem_append_right _ hx) (fun x hx => List.mem_append_right _ hx)) (by simpa only [zH] using hrow3) (by simp only [zG]; omega)
     rw [show (P ++ M1).length = d by rw [zG]; omega, show d + L2.length = e by omega, show e + R2.length = b by omega] at hc3
     have HC3 := Lib.hid (And.intro hc3 (And.intro hK3 (And.intro pm1 sm1)))
     clear hc3 hrow3 hK3 pm1 sm1
     go_wp2_with fail
     refine HC3.out.1.mono ?_
     rintro e0 w4 ⟨rfl, M2, hrow4, pm2, sm2, hk4⟩
     have HF := Lib.hid (And.intro hrow4 (And.intro pm2 (And.intro sm2 (HC3.out.2.1.trans hk4))))
     clear hrow4 pm2 sm2 hk4
     go_wp2_with fail
     go_end0
     exact ⟨rfl, M1 ++ M2, by have h := HF.out.1; simp only [zH] at h ⊢; exact h, perm4 HC3.out.2.2.1 HF.out.2.1, merge_join HSo.out.1 HSo.out.2.1 HJ.out.1 HJ.out.2 HC3.out.2.2.1 HF.out.2.1 HC3.out.2.2.2 HF.out.2.2.1, HF.out.2.2.2⟩
    ·have s1 : decide (j < m) = true := decide_eq_true (by omega)
     have s2 : decide (m < e) = true := decide_eq_true (by omega)
     have s3 : decide (a < j) = true := decide_eq_true (by omega)
     have s4 : decide (j < d) = true := decide_eq_true (by omega)
     have s5 : decide (d < e) = true := decide_eq_true (by omega)
     have s6 : decide (e < b) = false := decide_eq_false (by omega)
     have hLn : L1.length + L2.length = la := by omega
     have hRn : R1.length + R2.length = lb := by omega
     have nL1 : L1 ≠ [] := List.length_pos_iff.mp (by omega)
     have nL2 : L2 ≠ [] := List.length_pos_iff.mp (by omega)
     have nR1 : R1 ≠ [] := List.length_pos_iff.mp (by omega)
     have nR2 : R2 = [] := List.length_eq_zero_iff.mp (by omega)
     have hlen : P.length + (L1.length + (R1.length + (L2.length + (R2.length + S.length)))) = n := by omega
     have p1 : (P ++ L1).length = j := by rw [zG]; omega
     have p2 : j + L2.length = m := by omega
     have p3 : m + R1.length = e := by omega
     have hc1 := rotate_any g n c (.func (.func 49) #[] #[]) (P ++ L1) L2 R1 (R2 ++ S) wr (by have h := HW.out.1; simp only [zH] at h ⊢; exact h) (by simp only [zG]; omega) hn nL2 nR1
     rw [p1, p2, p3] at hc1
     have HC1 := Lib.hid hc1
     clear hc1
     go_wp2_with fail
     refine HC1.out.mono ?_
     rintro e0 w2 ⟨rfl, hrow2, hk2⟩
     have hrow2 : PcRow w2 g (P ++ (L1 ++ (R1 ++ (L2 ++ (R2 ++ S))))) := by simpa only [zH] using hrow2
     have hK2 := HW.out.2.trans hk2
     clear hk2
     have hc2 := HI.out P L1 R1 (L2 ++ (R2 ++ S)) w2 (by omega) nL1 nR1 (sorted_l HSo.out.1) (sorted_l HSo.out.2.1) (older_sub HSo.out.2.2 (fun x hx => List.mem_append_left _ hx) (fun x hx => List.mem_append_left _ hx)) hrow2 (by simp only [zG]; omega)
     rw [show P.length + L1.length + R1.length = d by omega, show P.length + L1.length = j by omega, ha] at hc2
     have HC2 := Lib.hid (And.intro hc2 hK2)
     clear hc2 hrow2 hK2
     go_wp2_with fail
     refine HC2.out.1.mono ?_
     rintro e0 w3 ⟨rfl, M1, hrow3, pm1, sm1, hk3⟩
     have hK3 := HC2.out.2.trans hk3
     clear hk3
     have hM1l : M1.length = L1.length + R1.length := by rw [pm1.length_eq, zG]
     have HF := Lib.hid (And.intro hrow3 (And.intro pm1 (And.intro sm1 hK3)))
     clear hrow3 pm1 sm1 hK3
     go_wp2_with fail
     go_end0
     have sm2 : SortedP (L2 ++ R2) := by rw [nR2, List.append_nil]; exact sorted_r HSo.out.1
     exact ⟨rfl, M1 ++ (L2 ++ R2), by have h := HF.out.1; simp only [zH] at h ⊢; exact h, perm4 HF.out.2.1 (List.Perm.refl _), merge_join HSo.out.1 HSo.out.2.1 HJ.out.1 HJ.out.2 HF.out.2.1 (List.Perm.refl _) HF.out.2.2.1 sm2, HF.out.2.2.2⟩
   ·rcases (show v = 0 ∨ (v ≠ 0 ∧ v ≠ lb) ∨ v = lb by omega) with cv | cv | cv
    ·have s1 : decide (j < m) = false := decide_eq_false (by omega)
     have s2 : decide (m < e) = false := decide_eq_false (by omega)
     have s3 : decide (a < j) = true := decide_eq_true (by omega)
     have s4 : decide (j < d) = false := decide_eq_false (by omega)
     have s5 : decide (d < e) = false := decide_eq_false (by omega)
     have s6 : decide (e < b) = true := decide_eq_true (by omega)
     have hLn : L1.length + L2.length = la := by omega
     have hRn : R1.length + R2.length = lb := by omega
     have nL1 : L1 ≠ [] := List.length_pos_iff.mp (by omega)
     have nL2 : L2 = [] := List.length_eq_zero_iff.mp (by omega)
     have nR1 : R1 = [] := List.length_eq_zero_iff.mp (by omega)
     have nR2 : R2 ≠ [] := List.length_pos_iff.mp (by omega)
     have hlen : P.length + (L1.length + (R1.length + (L2.length + (R2.length + S.length)))) = n := by omega
     have p1 : (P ++ L1).length = j := by rw [zG]; omega
     have p2 : j + L2.length = m := by omega
     have p3 : m + R1.length = e := by omega
     have hrow2 : PcRow wr g (P ++ (L1 ++ (R1 ++ (L2 ++ (R2 ++ S))))) := by have h := HW.out.1; rw [nL2] at h ⊢; simp only [zH, List.nil_append, List.append_nil] at h ⊢; exact h
     have hK2 := HW.out.2
     obtain ⟨M1, hM1⟩ : ∃ M1, M1 = L1 ++ R1 := ⟨_, rfl⟩
     have pm1 : M1.Perm (L1 ++ R1) := by rw [hM1]
     have sm1 : SortedP M1 := by rw [hM1, nR1, List.append_nil]; exact sorted_l HSo.out.1
     have hrow3 : PcRow wr g (P ++ (M1 ++ (L2 ++ (R2 ++ S)))) := by rw [hM1]; simpa only [zH] using hrow2
     have hK3 := hK2
     clear hrow2 hK2 hM1
     have hM1l : M1.length = L1.length + R1.length := by rw [pm1.length_eq, zG]
     have HF := Lib.hid (And.intro hrow3 (And.intro pm1 (And.intro sm1 hK3)))
     clear hrow3 pm1 sm1 hK3
     go_wp2_with fail
     go_end0
     have sm2 : SortedP (L2 ++ R2) := by rw [nL2, List.nil_append]; exact sorted_r HSo.out.2.1
     exact ⟨rfl, M1 ++ (L2 ++ R2), by have h := HF.out.1; simp only [zH] at h ⊢; exact h, perm4 HF.out.2.1 (List.Perm.refl _), merge_join HSo.out.1 HSo.out.2.1 HJ.out.1 HJ.out.2 HF.out.2.1 (List.Perm.refl _) HF.out.2.2.1 sm2, HF.out.2.2.2⟩
    ·have s1 : decide (j < m) = false := decide_eq_false (by omega)
     have s2 : decide (m < e) = true := decide_eq_true (by omega)
     have s3 : decide (a < j) = true := decide_eq_true (by omega)
     have s4 : decide (j < d) = true := decide_eq_true (by omega)
     have s5 : decide (d < e) = false := decide_eq_false (by omega)
     have s6 : decide (e < b) = true := decide_eq_true (by omega)
     have hLn : L1.length + L2.length = la := by omega
     have hRn : R1.length + R2.length = lb := by omega
     have nL1 : L1 ≠ [] := List.length_pos_iff.mp (by omega)
     have nL2 : L2 = [] := List.length_eq_zero_iff.mp (by omega)
     have nR1 : R1 ≠ [] := List.length_pos_iff.mp (by omega)
     have nR2 : R2 ≠ [] := List.length_pos_iff.mp (by omega)
     have hlen : P.length + (L1.length + (R1.length + (L2.length + (R2.length + S.length)))) = n := by omega
     have p1 : (P ++ L1).length = j := by rw [zG]; omega
     have p2 : j + L2.length = m := by omega
     have p3 : m + R1.length = e := by omega
     have hrow2 : PcRow wr g (P ++ (L1 ++ (R1 ++ (L2 ++ (R2 ++ S))))) := by have h := HW.out.1; rw [nL2] at h ⊢; simp only [zH, List.nil_append, List.append_nil] at h ⊢; exact h
     have hK2 := HW.out.2
     have hc2 := HI.out P L1 R1 (L2 ++ (R2 ++ S)) wr (by omega) nL1 nR1 (sorted_l HSo.out.1) (sorted_l HSo.out.2.1) (older_sub HSo.out.2.2 (fun x hx => List.mem_append_left _ hx) (fun x hx => List.mem_append_left _ hx)) hrow2 (by simp only [zG]; omega)
     rw [show P.length + L1.length + R1.length = d by omega, show P.length + L1.length = j by omega, ha] at hc2
     have HC2 := Lib.hid (And.intro hc2 hK2)
     clear hc2 hrow2 hK2
     go_wp2_with fail
     refine HC2.out.1.mono ?_
     rintro e0 w3 ⟨rfl, M1, hrow3, pm1, sm1, hk3⟩
     have hK3 := HC2.out.2.trans hk3
     clear hk3
     have hM1l : M1.length = L1.length + R1.length := by rw [pm1.length_eq, zG]
     have HF := Lib.hid (And.intro hrow3 (And.intro pm1 (And.intro sm1 hK3)))
     clear hrow3 pm1 sm1 hK3
     go_wp2_with fail
     go_end0
     have sm2 : SortedP (L2 ++ R2) := by rw [nL2, List.nil_append]; exact sorted_r HSo.out.2.1
     exact ⟨rfl, M1 ++ (L2 ++ R2), by have h := HF.out.1; simp only [zH] at h ⊢; exact h, perm4 HF.out.2.1 (List.Perm.refl _), merge_join HSo.out.1 HSo.out.2.1 HJ.out.1 HJ.out.2 HF.out.2.1 (List.Perm.refl _) HF.out.2.2.1 sm2, HF.out.2.2.2⟩
    ·exfalso; omega
theorem sym_any (g n c : Nat) (hn : n ≤ 1000) : ∀ N, SymC g n c N
 | 0 => fun P L R S w h hL hR => absurd (List.length_pos_iff.mpr hL) (by omega)
 | N + 1 => fun P L R S w h hL hR hsL hsR ho hrow hl => by
  have hLl := List.length_pos_iff.mpr hL
  have hRl := List.length_pos_iff.mpr hR
  have IH : ∀ K, K ≤ N → SymC g n c K := fun K hK P L R S w h => sym_any g n c hn N P L R S w (by omega)
  by_cases h1 : L.length = 1
  ·obtain ⟨x, rfl⟩ := List.length_eq_one_iff.mp h1
   rw [List.length_singleton] at hl ⊢
   exact sym_1 g n c P x R S w hrow (by omega) hn hR hsR ho
  ·by_cases h2 : R.length = 1
   ·obtain ⟨y, rfl⟩ := List.length_eq_one_iff.mp h2
    rw [List.length_singleton] at hl ⊢
    exact sym_2 g n c P y L S w hrow (by omega) hn (by omega) hsL ho
   ·rcases Nat.lt_or_ge ((P.length + (P.length + L.length + R.length)) / 2) (P.length + L.length) with hd | hd
    ·exact sym_3a g n c P L R S w _ _ _ _ rfl rfl rfl rfl hd (IH _ (by omega)) hrow hl hn (by omega) (by omega) hsL hsR ho
    ·exact sym_3b g n c P L R S w _ _ _ _ rfl rfl rfl rfl hd (IH _ (by omega)) hrow hl hn (by omega) (by omega) hsL hsR ho
theorem insert_at (g n c : Nat) (P M S : List Pc) (w : World) (A B : Int) (hA : A = (P.length : Nat)) (hB : B = (P.length + M.length : Nat)) (hR : PcRow w g (P ++ (M ++ S))) (hl : (P ++ (M ++ S)).length = n) (hn : n ≤ 1000) (hM : M.Pairwise (fun x y => x.idx < y.idx)) :
  Calls Tryd.prog 120 #[.slice (some ⟨g, 0, none⟩) n c, .int .i64 A, .int .i64 B, .func (.func 49) #[] #[]] w fun e w' => e = .returned (.tuple #[]) ∧ ∃ M', PcRow w' g (P ++ (M' ++ S)) ∧ M'.Perm M ∧ SortedP M' ∧ Kg g w w' := by
 subst hA hB
 exact insert_any g n c P M S w hR hl hn hM
theorem sym_at (g n c : Nat) (P L R S : List Pc) (w : World) (A M B : Int) (hA : A = (P.length : Nat)) (hM : M = (P.length + L.length : Nat)) (hB : B = (P.length + L.length + R.length : Nat)) (hn : n ≤ 1000) (hL : L ≠ []) (hR : R ≠ []) (hsL : SortedP L) (hsR : SortedP R) (ho : Older L R) (hrow : PcRow w g (P ++ (L ++ (R ++ S)))) (hl : P.length + (L.length + (R.length + S.length)) = n) :
  Calls Tryd.prog 121 #[.slice (some ⟨g, 0, none⟩) n c, .int .i64 A, .int .i64 M, .int .i64 B, .func (.func 49) #[] #[]] w (SymPost g P L R S w) := by
 subst hA hM hB
 exact sym_any g n c hn _ P L R S w (Nat.le_refl _) hL hR hsL hsR ho hrow hl
def StPost (g : Nat) (xs : List Pc) (w : World) (e : Ending) (w' : World) : Prop := e = .returned (.tuple #[]) ∧ ∃ ys, PcRow w' g ys ∧ ys.Perm xs ∧ SortedP ys ∧ Kg g w w'
theorem stable_none (A : Option Addr) (c : Nat) (w : World) :
  Calls Tryd.prog 91 #[.slice A 0 c, .int .i64 0, .func (.func 49) #[] #[]] w fun e w' => e = .returned (.tuple #[]) ∧ w = w' := by
 have HI : ∀ V, Calls Tryd.prog 120 #[.slice A 0 c, .int .i64 0, .int .i64 0, .func (.func 49) #[] #[]] V fun e w' => e = .returned (.tuple #[]) ∧ V = w' := fun V => by
  go_in
  go_wp2_with fail
  refine wp_loop_rounds 1 ?_
  rw [rounds_succ]
  go_wp2_with fail
  go_end0
  exact ⟨rfl, rfl⟩
 go_in
 go_wp2_with fail
 refine wp_loop_rounds 1 ?_
 rw [rounds_succ]
 go_wp2_with fail
 refine (HI _).mono ?_
 rintro e w1 ⟨rfl, rfl⟩
 go_wp2_with fail
 refine wp_loop_rounds 1 ?_
 rw [rounds_succ]
 go_wp2_with fail
 go_end0
 exact ⟨rfl, rfl⟩
theorem stable_lt20 (g n c : Nat) (xs : List Pc) (w : World) (hR : PcRow w g xs) (hl : xs.length = n) (hn : n < 20) (hM : xs.Pairwise (fun x y => x.idx < y.idx)) :
  Calls Tryd.prog 91 #[.slice (some ⟨g, 0, none⟩) n c, .int .i64 n, .func (.func 49) #[] #[]] w (StPost g xs w) := by
 have HI := Lib.hid (insert_at g n c [] xs [] w 0 n rfl (by simp [hl]) (by simpa using hR) (by simpa using hl) (by omega) hM)
 have d1 : decide ((20 : Int) ≤ (n : Int)) = false := decide_eq_false (by omega)
 have d1n : decide (20 ≤ n) = false := decide_eq_false (by omega)
 have d2 : decide ((20 : Int) < (n : Int)) = false := decide_eq_false (by omega)
 have d2n : decide (20 < n) = false := decide_eq_false (by omega)
 clear hR hM
 go_in
 go_wp2_with fail
 refine wp_loop_rounds 1 ?_
 rw [rounds_succ]
 go_wp2_with fail
 refine HI.out.mono ?_
 rintro e w1 ⟨rfl, ys, h1, h2, h3, h4⟩
 have HF := Lib.hid (And.intro h1 (And.intro h2 (And.intro h3 h4)))
 clear h1 h2 h3 h4
 go_wp2_with fail
 refine wp_loop_rounds 1 ?_
 rw [rounds_succ]
 go_wp2_with fail
 go_end0
 exact ⟨rfl, ys, by simpa using HF.out.1, HF.out.2.1, HF.out.2.2.1, HF.out.2.2.2⟩
theorem stable_20 (g c : Nat) (xs : List Pc) (w : World) (hR : PcRow w g xs) (hl : xs.length = 20) (hM : xs.Pairwise (fun x y => x.idx < y.idx)) :
  Calls Tryd.prog 91 #[.slice (some ⟨g, 0, none⟩) 20 c, .int .i64 20, .func (.func 49) #[] #[]] w (StPost g xs w) := by
 have HI := Lib.hid (insert_at g 20 c [] xs [] w 0 20 rfl (by simp [hl]) (by simpa using hR) (by simpa using hl) (by omega) hM)
 clear hR hM
 go_in
 go_wp2_with fail
 refine wp_loop_rounds 2 ?_
 rw [rounds_succ]
 go_wp2_with fail
 refine HI.out.mono ?_
 rintro e w1 ⟨rfl, ys, h1, h2, h3, h4⟩
 have HI2 := Lib.hid (insert_at g 20 c ys [] [] w1 20 20 (by rw [h2.length_eq, hl]; rfl) (by rw [h2.length_eq, hl]; rfl) (by simpa using h1) (by simp [h2.length_eq, hl]) (by omega) List.Pairwise.nil)
 have HF := Lib.hid (And.intro h2 (And.intro h3 h4))
 clear h1 h2 h3 h4
 go_wp2_with fail
 rw [rounds_succ]
 go_wp2_with fail
 refine HI2.out.mono ?_
 rintro e w2 ⟨rfl, zs, k1, k2, k3, k4⟩
 have hz : zs = [] := List.perm_nil.mp k2
 subst hz
 have HG := Lib.hid (And.intro k1 k4)
 clear k1 k2 k3 k4
 go_wp2_with fail
 refine wp_loop_rounds 1 ?_
 rw [rounds_succ]
 go_wp2_with fail
 go_end0
 exact ⟨rfl, ys, by simpa using HG.out.1, HF.out.1, HF.out.2.1, HF.out.2.2.trans HG.out.2⟩
theorem stable_lt40 (g n c : Nat) (X Y : List Pc) (w : World) (hR : PcRow w g (X ++ Y)) (hX : X.length = 20) (hY0 : Y ≠ []) (hl : 20 + Y.length = n) (hn : n < 40) (hMX : X.Pairwise (fun x y => x.idx < y.idx)) (hMY : Y.Pairwise (fun x y => x.idx < y.idx)) (ho : Older X Y) :
  Calls Tryd.prog 91 #[.slice (some ⟨g, 0, none⟩) n c, .int .i64 n, .func (.func 49) #[] #[]] w (StPost g (X ++ Y) w) := by
 have hYl := List.length_pos_iff.mpr hY0
 have HI := Lib.hid (insert_at g n c [] X Y w 0 20 rfl (by simp [hX]) (by simpa using hR) (by simp [hX]; omega) (by omega) hMX)
 have HP := Lib.hid (And.intro hMY (And.intro ho hY0))
 have d1 : decide ((20 : Int) ≤ (n : Int)) = true := decide_eq_true (by omega)
 have d1n : decide (20 ≤ n) = true := decide_eq_true (by omega)
 have d2 : decide ((20 : Int) < (n : Int)) = true := decide_eq_true (by omega)
 have d2n : decide (20 < n) = true := decide_eq_true (by omega)
 have d3 : decide ((40 : Int) ≤ (n : Int)) = false := decide_eq_false (by omega)
 have d3n : decide (40 ≤ n) = false := decide_eq_false (by omega)
 have d4 : decide ((40 : Int) < (n : Int)) = false := decide_eq_false (by omega)
 have d4n : decide (40 < n) = false := decide_eq_false (by omega)
 clear hR hMX hMY ho hY0
 go_in
 go_wp2_with fail
 refine wp_loop_rounds 2 ?_
 rw [rounds_succ]
 go_wp2_with fail
 refine HI.out.mono ?_
 rintro e w1 ⟨rfl, X1, h1, h2, h3, h4⟩
 have hX1 : X1.length = 20 := h2.length_eq.trans hX
 have HI2 := Lib.hid (insert_at g n c X1 Y [] w1 20 n (by rw [hX1]; rfl) (by rw [hX1]; omega) (by simpa using h1) (by simp [hX1]; omega) (by omega) HP.out.1)
 have HF := Lib.hid (And.intro h2 (And.intro h3 h4))
 clear h1 h2 h3 h4
 go_wp2_with fail
 rw [rounds_succ]
 go_wp2_with fail
 refine HI2.out.mono ?_
 rintro e w2 ⟨rfl, Y1, k1, k2, k3, k4⟩
 have hY1 : Y1.length = Y.length := k2.length_eq
 have ho1 : Older X1 Y1 := fun x hx y hy => HP.out.2.1 x (HF.out.1.mem_iff.mp hx) y (k2.mem_iff.mp hy)
 have HI3 := Lib.hid (sym_at g n c [] X1 Y1 [] w2 0 20 n rfl (by simp [hX1]) (by simp [hX1, hY1]; omega) (by omega) (List.length_pos_iff.mp (by omega)) (List.length_pos_iff.mp (by omega)) HF.out.2.1 k3 ho1 (by simpa using k1) (by simp [hX1, hY1]; omega))
 have HG := Lib.hid (And.intro k2 (HF.out.2.2.trans k4))
 clear k1 k2 k3 k4 ho1
 go_wp2_with fail
 refine wp_loop_rounds 2 ?_
 rw [rounds_succ]
 go_wp2_with fail
 refine wp_loop_rounds 1 ?_
 rw [rounds_succ]
 go_wp2_with fail
 refine HI3.out.mono ?_
 rintro e w3 ⟨rfl, M, m1, m2, m3, m4⟩
 have HH := Lib.hid (And.intro m1 (And.intro m2 (And.intro m3 m4)))
 clear m1 m2 m3 m4
 go_wp2_with fail
 rw [rounds_succ]
 go_wp2_with fail
 go_end0
 exact ⟨rfl, M, by simpa using HH.out.1, HH.out.2.1.trans (HF.out.1.append HG.out.1), HH.out.2.2.1, HG.out.2.trans HH.out.2.2.2⟩
theorem stable_40 (g c : Nat) (X Y : List Pc) (w : World) (hR : PcRow w g (X ++ Y)) (hX : X.length = 20) (hY : Y.length = 20) (hMX : X.Pairwise (fun x y => x.idx < y.idx)) (hMY : Y.Pairwise (fun x y => x.idx < y.idx)) (ho : Older X Y) :
  Calls Tryd.prog 91 #[.slice (some ⟨g, 0, none⟩) 40 c, .int .i64 40, .func (.func 49) #[] #[]] w (StPost g (X ++ Y) w) := by
 have HI := Lib.hid (insert_at g 40 c [] X Y w 0 20 rfl (by simp [hX]) (by simpa using hR) (by simp [hX, hY]) (by omega) hMX)
 have HP := Lib.hid (And.intro hMY ho)
 clear hR hMX hMY ho
 go_in
 go_wp2_with fail
 refine wp_loop_rounds 3 ?_
 rw [rounds_succ]
 go_wp2_with fail
 refine HI.out.mono ?_
 rintro e w1 ⟨rfl, X1, h1, h2, h3, h4⟩
 have hX1 : X1.length = 20 := h2.length_eq.trans hX
 have HI2 := Lib.hid (insert_at g 40 c X1 Y [] w1 20 40 (by rw [hX1]; rfl) (by rw [hX1, hY]; rfl) (by simpa using h1) (by simp [hX1, hY]) (by omega) HP.out.1)
 have HF := Lib.hid (And.intro h2 (And.intro h3 h4))
 clear h1 h2 h3 h4
 go_wp2_with fail
 rw [rounds_succ]
 go_wp2_with fail
 refine HI2.out.mono ?_
 rintro e w2 ⟨rfl, Y1, k1, k2, k3, k4⟩
 have hY1 : Y1.length = 20 := k2.length_eq.trans hY
 have HI3 := Lib.hid (insert_at g 40 c (X1 ++ Y1) [] [] w2 40 40 (by rw [zG, hX1, hY1]; rfl) (by rw [zG, hX1, hY1]; rfl) (by simpa using k1) (by simp [hX1, hY1]) (by omega) List.Pairwise.nil)
 have ho1 : Older X1 Y1 := fun x hx y hy => HP.out.2 x (HF.out.1.mem_iff.mp hx) y (k2.mem_iff.mp hy)
 have HG := Lib.hid (And.intro k2 (And.intro k3 (And.intro ho1 (HF.out.2.2.trans k4))))
 clear k1 k2 k3 k4 ho1
 go_wp2_with fail
 rw [rounds_succ]
 go_wp2_with fail
 refine HI3.out.mono ?_
 rintro e w3 ⟨rfl, zs, z1, z2, z3, z4⟩
 have hz : zs = [] := List.perm_nil.mp z2
 subst hz
 have HI4 := Lib.hid (sym_at g 40 c [] X1 Y1 [] w3 0 20 40 rfl (by simp [hX1]) (by simp [hX1, hY1]) (by omega) (List.length_pos_iff.mp (by omega)) (List.length_pos_iff.mp (by omega)) HF.out.2.1 HG.out.2.1 HG.out.2.2.1 (by simpa using z1) (by simp [hX1, hY1]))
 have HZ := Lib.hid (HG.out.2.2.2.trans z4)
 clear z1 z2 z3 z4
 go_wp2_with fail
 refine wp_loop_rounds 2 ?_
 rw [rounds_succ]
 go_wp2_with fail
 refine wp_loop_rounds 2 ?_
 rw [rounds_succ]
 go_wp2_with fail
 refine HI4.out.mono ?_
 rintro e w4 ⟨rfl, M, m1, m2, m3, m4⟩
 have HH := Lib.hid (And.intro m1 (And.intro m2 (And.intro m3 m4)))
 clear m1 m2 m3 m4
 go_wp2_with fail
 rw [rounds_succ]
 go_wp2_with fail
 rw [rounds_succ]
 go_wp2_with fail
 go_end0
 exact ⟨rfl, M, by simpa using HH.out.1, HH.out.2.1.trans (HF.out.1.append HG.out.1), HH.out.2.2.1, HZ.out.trans HH.out.2.2.2⟩
theorem stable_any (g n c : Nat) (xs : List Pc) (w : World) (hR : PcRow w g xs) (hl : xs.length = n) (hn : n ≤ 40) (hM : xs.Pairwise (fun x y => x.idx < y.idx)) :
  Calls Tryd.prog 91 #[.slice (some ⟨g, 0, none⟩) n c, .int .i64 n, .func (.func 49) #[] #[]] w (StPost g xs w) := by
 rcases Nat.lt_trichotomy n 20 with h | h | h
 ·exact stable_lt20 g n c xs w hR hl h hM
 ·subst h
  exact stable_20 g c xs w hR hl hM
 ·have e : xs.take 20 ++ xs.drop 20 = xs := List.take_append_drop _ _
  have l1 : (xs.take 20).length = 20 := by rw [List.length_take]; omega
  have l2 : 20 + (xs.drop 20).length = n := by rw [List.length_drop]; omega
  rw [← e] at hM hR ⊢
  obtain ⟨m1, m2, m3⟩ := List.pairwise_append.mp hM
  rcases Nat.lt_or_ge n 40 with h2 | h2
  ·exact stable_lt40 g n c _ _ w hR l1 (List.length_pos_iff.mp (by omega)) l2 h2 m1 m2 m3
  ·obtain rfl : n = 40 := by omega
   exact stable_40 g c _ _ w hR l1 (by omega) m1 m2 m3
theorem sorts_any (g n c : Nat) (xs : List Pc) (w : World) (hR : PcRow w g xs) (hl : xs.length = n) (hn : n ≤ 40) (hM : xs.Pairwise (fun x y => x.idx < y.idx)) :
  Calls Tryd.prog 48 #[.slice (some ⟨g, 0, none⟩) n c, .func (.func 49) #[] #[]] w (StPost g xs w) := by
 have HI := Lib.hid (stable_any g n c xs w hR hl hn hM)
 clear hR hM
 go_in
 go_wp2_with fail
 refine HI.out.mono ?_
 rintro e w1 ⟨rfl, ys, h⟩
 have HF := Lib.hid h
 clear h
 go_wp2_with fail
 go_end0
 exact ⟨rfl, ys, HF.out⟩
theorem sorts_none (A : Option Addr) (c : Nat) (w : World) :
  Calls Tryd.prog 48 #[.slice A 0 c, .func (.func 49) #[] #[]] w fun e w' => e = .returned (.tuple #[]) ∧ w = w' := by
 have HI := Lib.hid (fun V => stable_none A c V)
 go_in
 go_wp2_with fail
 refine (HI.out _).mono ?_
 rintro e w1 ⟨rfl, rfl⟩
 go_wp2_with fail
 go_end0
 exact ⟨rfl, rfl⟩
end Go.Proofs.YtcipleanckeoaaaDoor
