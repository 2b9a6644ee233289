/- Pieces in a row; how two are compared; how two ranges change places. -/
import Derived.Test.YtcipleanckeoaaaDoorRows
import Derived.Test.YtcipleanckeoaaaDoorZCommon
import Derived.Lib.Hide
import Derived.BigRegion
import Derived.Deep.Cut
import Derived.Deep.RegionWith
import Derived.Deep.RegionHeld
open List renaming getElem_toArray → zA, getElem_cons_zero → zB, setIfInBounds_toArray → zC, set_cons_succ → zD, set_cons_zero → zE, getElem_cons_succ → zF, length_append → zG, append_assoc → zH, length_pos_iff → zI
namespace Go.Proofs.YtcipleanckeoaaaDoor
open Go.RowKit
attribute [local go_sem] Oper.semAt_some
set_option linter.unusedVariables false
set_option linter.unusedSimpArgs false
set_option maxRecDepth 100000
structure Pc where
 at_ : Int
 A : Option Addr
 n : Nat
 c : Nat
 idx : Nat
def Pc.v (x : Pc) : Value := .agg #[.int .i64 x.at_, .slice x.A x.n x.c]
def PcRow (W : World) (g : Nat) (xs : List Pc) : Prop :=
 g < W.heap.size ∧ (∀ j, W.frozen? ⟨g, j, none⟩ = false) ∧ ∀ (i : Nat) (x : Pc), xs[i]? = some x → W.cell? ⟨g, i * 2, none⟩ = some (.int .i64 x.at_) ∧ W.cell? ⟨g, i * 2 + 1, none⟩ = some (.slice x.A x.n x.c)
theorem PcRow.up {W W' : World} {g : Nat} {xs : List Pc} (h : PcRow W g xs) (hb : Below W.heap.size W W') : PcRow W' g xs := by
 obtain ⟨h1, h2, h3⟩ := h
 refine ⟨Nat.lt_of_lt_of_le h1 hb.size, fun j => ?_, fun i x hx => ?_⟩
 ·have := h2 j
  unfold World.frozen? at this ⊢
  rw [show W'.heap[(⟨g, j, none⟩ : Addr).block]? = W.heap[(⟨g, j, none⟩ : Addr).block]? from hb.block g h1]
  exact this
 ·obtain ⟨a, b⟩ := h3 i x hx
  exact ⟨(hb.cell (p := ⟨g, i * 2, none⟩) h1).trans a, (hb.cell (p := ⟨g, i * 2 + 1, none⟩) h1).trans b⟩
def Kg (g : Nat) (A B : World) : Prop := Below 0 A B ∧ ∀ k, k ≠ g → k < A.heap.size → B.heap[k]? = A.heap[k]?
theorem Kg.refl (g : Nat) (A : World) : Kg g A A := ⟨Below.refl _ _, fun _ _ _ => rfl⟩
theorem Kg.size {g : Nat} {A B : World} (h : Kg g A B) : A.heap.size ≤ B.heap.size := h.1.size
theorem Kg.trans {g : Nat} {A B C : World} (h : Kg g A B) (k : Kg g B C) : Kg g A C := ⟨h.1.trans k.1, fun j h1 h3 => (k.2 j h1 (by have := h.size; omega)).trans (h.2 j h1 h3)⟩
theorem Kg.of_below {g : Nat} {A B : World} (h : Below A.heap.size A B) : Kg g A B := ⟨h.mono (Nat.zero_le _), fun k _ hk => h.block k hk⟩
theorem Kg.set {g : Nat} {A B : World} (h : Kg g A B) (o : Nat) (v : Value) : Kg g A (B.setCell ⟨g, o, none⟩ v) :=
 ⟨h.1.setCell (p := ⟨g, o, none⟩) (Nat.zero_le _) v, fun k h1 h3 => (Below.heap_setCell B ⟨g, o, none⟩ v k h1).trans (h.2 k h1 h3)⟩
theorem Kg.drewN {g : Nat} {A B : World} (h : Kg g A B) (n : Nat) : Kg g A (B.drewN n) := ⟨below_drewN h.1 n, h.2⟩
theorem Kg.below {g n : Nat} {A B : World} (h : Kg g A B) (h1 : n ≤ g) (h2 : n ≤ A.heap.size) : Below n A B := ⟨h.1.os, h.1.tape, h.1.output, h.1.size, fun k hk => h.2 k (by omega) (by omega)⟩
theorem PcRow.drewN {W : World} {g : Nat} {xs : List Pc} (h : PcRow W g xs) (n : Nat) : PcRow (W.drewN n) g xs := h
theorem PcRow.put {W : World} {g : Nat} {xs : List Pc} (h : PcRow W g xs) (i : Nat) (y : Pc) (hi : i < xs.length) : PcRow ((W.setCell ⟨g, i * 2, none⟩ (.int .i64 y.at_)).setCell ⟨g, i * 2 + 1, none⟩ (.slice y.A y.n y.c)) g (xs.set i y) := by
 obtain ⟨h1, h2, h3⟩ := h
 have hset : ∀ (V : World) (o p : Nat) (v : Value), (V.setCell ⟨g, o, none⟩ v).frozen? ⟨g, p, none⟩ = V.frozen? ⟨g, p, none⟩ := fun V o p v => by
  unfold World.frozen? World.setCell
  simp only [Array.getElem?_modify]
  cases V.heap[g]? with
  | none => simp
  | some o => cases o <;> simp
 have hne : ∀ (V : World) (o p : Nat) (v : Value), o ≠ p → (V.setCell ⟨g, o, none⟩ v).cell? ⟨g, p, none⟩ = V.cell? ⟨g, p, none⟩ := fun V o p v hop =>
  World.cell?_setCell_other _ _ _ _ (by intro e; injection e with e1 e2; exact hop e2)
 refine ⟨by simpa using h1, fun j => by rw [hset, hset]; exact h2 j, fun k z hz => ?_⟩
 by_cases hk : k = i
 ·subst hk
  rw [List.getElem?_set_self hi] at hz
  cases hz
  obtain ⟨x, hx⟩ : ∃ x, xs[k]? = some x := ⟨_, List.getElem?_eq_getElem hi⟩
  obtain ⟨c0, c1⟩ := h3 k x hx
  have f0 := h2 (k * 2)
  have f1 := h2 (k * 2 + 1)
  constructor
  ·rw [hne _ _ _ _ (by omega)]
   exact World.cell?_setCell_same' _ _ _ (by rw [c0]; rfl)
  ·exact World.cell?_setCell_same' _ _ _ (by rw [hne _ _ _ _ (by omega), c1]; rfl)
 ·rw [List.getElem?_set_ne (fun e => hk e.symm)] at hz
  obtain ⟨c0, c1⟩ := h3 k z hz
  exact ⟨((hne _ _ _ _ (by omega)).trans (hne _ _ _ _ (by omega))).trans c0, ((hne _ _ _ _ (by omega)).trans (hne _ _ _ _ (by omega))).trans c1⟩
end Go.Proofs.YtcipleanckeoaaaDoor
namespace Go.Proofs.YtcipleanckeoaaaDoor
open Go.RowKit
set_option linter.unusedVariables false
set_option linter.unusedSimpArgs false
def ltP (x y : Pc) : Prop := x.at_ < y.at_ ∨ (x.at_ = y.at_ ∧ x.idx < y.idx)
theorem ltP.trans {x y z : Pc} (h : ltP x y) (k : ltP y z) : ltP x z := by unfold ltP at *; omega
def Swp (xs : List Pc) (a b k : Nat) (ys : List Pc) : Prop :=
 ys.length = xs.length ∧ ∀ i : Nat, ys[i]? = if a ≤ i ∧ i < a + k then xs[i + b - a]? else if b ≤ i ∧ i < b + k then xs[i + a - b]? else xs[i]?
theorem Swp.none (xs : List Pc) (a b : Nat) : Swp xs a b 0 xs := ⟨rfl, fun i => by rw [if_neg (by omega), if_neg (by omega)]⟩
theorem Swp.next {xs ys : List Pc} {a b k : Nat} (h : Swp xs a b k ys) (hab : a + k < b) {x y : Pc} (hx : xs[a + k]? = some x) (hy : xs[b + k]? = some y) : Swp xs a b (k + 1) ((ys.set (a + k) y).set (b + k) x) := by
 obtain ⟨hl, hi⟩ := h
 have l1 : a + k < xs.length := (List.getElem?_eq_some_iff.mp hx).1
 have l2 : b + k < xs.length := (List.getElem?_eq_some_iff.mp hy).1
 refine ⟨by simpa using hl, fun i => ?_⟩
 by_cases e2 : i = b + k
 ·subst e2
  rw [List.getElem?_set_self (by simpa [hl] using l2), if_neg (by omega), if_pos (by omega), show b + k + a - b = a + k by omega, hx]
 ·rw [List.getElem?_set_ne (fun e => e2 e.symm)]
  by_cases e1 : i = a + k
  ·subst e1
   rw [List.getElem?_set_self (by omega), if_pos (by omega), show a + k + b - a = b + k by omega, hy]
  ·rw [List.getElem?_set_ne (fun e => e1 e.symm), hi i]
   by_cases c1 : a ≤ i ∧ i < a + k
   ·rw [if_pos c1, if_pos (by omega)]
   ·rw [if_neg c1, if_neg (show ¬(a ≤ i ∧ i < a + (k + 1)) by omega)]
    by_cases c2 : b ≤ i ∧ i < b + k
    ·rw [if_pos c2, if_pos (by omega)]
    ·rw [if_neg c2, if_neg (by omega)]
theorem Swp.whole {P A Q B S ys : List Pc} {n : Nat} (hA : A.length = n) (hB : B.length = n) (h : Swp (P ++ (A ++ (Q ++ (B ++ S)))) P.length (P.length + n + Q.length) n ys) : ys = P ++ (B ++ (Q ++ (A ++ S))) := by
 refine List.ext_getElem? fun i => ?_
 rw [h.2 i]
 simp only [List.getElem?_append, hA, hB]
 by_cases c1 : i < P.length
 ·rw [if_neg (by omega), if_neg (by omega), if_pos c1, if_pos c1]
 ·by_cases c2 : i - P.length < n
  ·rw [if_pos (by omega), if_neg (by omega), if_neg (by omega), if_neg (by omega), if_pos (by omega), if_neg c1, if_pos c2]
   congr 1; omega
  ·by_cases c3 : i - P.length - n < Q.length
   ·rw [if_neg (by omega), if_neg (by omega), if_neg c1, if_neg c2, if_pos c3, if_neg c1, if_neg c2, if_pos c3]
   ·by_cases c4 : i - P.length - n - Q.length < n
    ·rw [if_neg (by omega), if_pos (by omega), if_neg (by omega), if_pos (by omega), if_neg c1, if_neg c2, if_neg c3, if_pos c4]
     congr 1; omega
    ·rw [if_neg (by omega), if_neg (by omega), if_neg c1, if_neg c2, if_neg c3, if_neg c4, if_neg c1, if_neg c2, if_neg c3, if_neg c4]
end Go.Proofs.YtcipleanckeoaaaDoor
namespace Go.Proofs.YtcipleanckeoaaaDoor
open Go.RowKit
attribute [local go_sem] Oper.semAt_some
set_option linter.unusedVariables false
set_option linter.unusedSimpArgs false
set_option maxRecDepth 100000
theorem Kg.drew {g : Nat} {A B : World} (h : Kg g A B) : Kg g A B.drew := ⟨h.1.drew, h.2⟩
end Go.Proofs.YtcipleanckeoaaaDoor
namespace Go.Proofs.YtcipleanckeoaaaDoor
open Go.RowKit
attribute [local go_sem] Oper.semAt_some
set_option linter.unusedVariables false
set_option linter.unusedSimpArgs false
set_option maxRecDepth 100000
end Go.Proofs.YtcipleanckeoaaaDoor
namespace Go.Proofs.YtcipleanckeoaaaDoor
open Go.RowKit
attribute [local go_sem] Oper.semAt_some
set_option linter.unusedVariables false
set_option linter.unusedSimpArgs false
set_option maxRecDepth 100000
end Go.Proofs.YtcipleanckeoaaaDoor
namespace Go.Proofs.YtcipleanckeoaaaDoor
open Go.RowKit
attribute [local go_sem] Oper.semAt_some
set_option linter.unusedVariables false
set_option linter.unusedSimpArgs false
set_option maxRecDepth 100000
end Go.Proofs.YtcipleanckeoaaaDoor
namespace Go.Proofs.YtcipleanckeoaaaDoor
open Go.RowKit
attribute [local go_sem] Oper.semAt_some
set_option linter.unusedVariables false
set_option linter.unusedSimpArgs false
set_option maxRecDepth 100000
end Go.Proofs.YtcipleanckeoaaaDoor
