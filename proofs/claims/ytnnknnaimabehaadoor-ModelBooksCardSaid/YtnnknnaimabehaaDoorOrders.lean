/- A region that draws its order, as the finite list of its orders: each is then walked as any list of operations. -/
import Derived.WalkKit
import Derived.OwnWalkIn
import Derived.TacticsIn
import Derived.KernelRfl
namespace Go.Proofs.YtnnknnaimabehaaDoor
open Go.RowKit

def readyOf (md : Region.Mode) (ops : Array Oper) (listed : Array Bool) : List Nat :=
  (List.range ops.size).filter fun i => !listed.getD i true && ((ops[i]?).map (·.after.all fun e => !Region.binds md e || listed.getD e.on false)).getD false
def ordersOf (md : Region.Mode) (ops : Array Oper) : Nat → Array Bool → List Nat → List (List Nat)
  | 0, _, acc => [acc.reverse]
  | fuel + 1, listed, acc => if (readyOf md ops listed).isEmpty then [acc.reverse] else (readyOf md ops listed).flatMap fun i => ordersOf md ops fuel (listed.setIfInBounds i true) (i :: acc)
theorem go_mem (md : Region.Mode) (ops : Array Oper) : ∀ (fuel t : Nat) (listed : Array Bool) (acc : List Nat), Region.linearise.go md ops fuel t listed acc ∈ ordersOf md ops fuel listed acc := by
  intro fuel
  induction fuel with
  | zero => intro t listed acc; simp [Region.linearise.go, ordersOf]
  | succ fuel ih =>
    intro t listed acc
    rw [Region.linearise.go, ordersOf]
    show (match (readyOf md ops listed)[t % (readyOf md ops listed).length]? with
      | some i => Region.linearise.go md ops fuel (t / (readyOf md ops listed).length) (listed.setIfInBounds i true) (i :: acc)
      | none => acc.reverse) ∈ _
    cases h : (readyOf md ops listed)[t % (readyOf md ops listed).length]? with
    | some i =>
      have hm := List.mem_of_getElem? h
      have hne : (readyOf md ops listed).isEmpty = false := by
        cases hr : readyOf md ops listed with
        | nil => rw [hr] at hm; cases hm
        | cons a b => rfl
      rw [hne]
      exact List.mem_flatMap.2 ⟨i, hm, ih _ _ _⟩
    | none =>
      have h0 := List.getElem?_eq_none_iff.1 h
      have hne : (readyOf md ops listed).isEmpty = true := by
        rw [List.isEmpty_iff]
        apply List.length_eq_zero_iff.1
        rcases Nat.eq_zero_or_pos (readyOf md ops listed).length with e | e
        · exact e
        · have := Nat.mod_lt t e; omega
      rw [hne]
      simp
def opsAt (ops : Array Oper) (l : List Nat) : List Oper := l.filterMap (ops[·]?)
theorem opsAt_nil (ops : Array Oper) : opsAt ops [] = [] := rfl
theorem opsAt_cons (ops : Array Oper) (i : Nat) (l : List Nat) : opsAt ops (i :: l) = (ops[i]?).toList ++ opsAt ops l := by
  unfold opsAt
  rw [List.filterMap_cons]
  cases ops[i]? <;> rfl
section
variable {F : Fence} {n : Nat} {P : Program} {ops : Array Oper} {Q : Exit → Act → World → Prop}
theorem wpOpsIn_of (l : List Nat) : ∀ (a : Act) (w : World), wpListIn F n P ops Q (opsAt ops l) a w → wpOpsIn F n P ops Q l a w := by
  induction l with
  | nil => intro a w h; exact h
  | cons i l ih =>
    intro a w h
    rw [wpOpsIn]
    cases ho : ops[i]? with
    | none => simp only [opsAt, List.filterMap_cons, ho] at h; exact ih a w h
    | some o =>
      simp only [opsAt, List.filterMap_cons, ho, wpListIn] at h
      dsimp only
      split
      · rename_i hw
        rw [if_pos hw] at h
        exact Oper.wpIn_mono (fun a' w' h' => ih a' w' h') h
      · rename_i hw
        rw [if_neg hw] at h
        exact ⟨h.1, ih _ _ h.2⟩
theorem wpIn_region_orders {id : Nat} {a : Act} {w : World} {l : List Oper} (hm : P.follows .mixedOrders = true) (is : List (List Nat)) (hall : ordersOf .any l.toArray l.length (Array.replicate l.length false) [] = is)
    (h : ∀ x ∈ is, wpListIn F n P l.toArray Q (opsAt l.toArray x) a w.drew) : (Code.region id l.toArray true).wpIn F n P Q a w :=
  wpIn_region_draw fun t => by
    simp only [Region.schedule, hm, Bool.true_or, if_true, Region.linearise]
    refine wpOpsIn_of _ _ _ (h _ ?_)
    rw [← hall]
    have := go_mem .any l.toArray l.toArray.size t (Array.replicate l.toArray.size false) []
    simpa using this
theorem wpIn_region_two {id : Nat} {a : Act} {w : World} {l : List Oper} (hm : P.follows .mixedOrders = true) (i1 i2 : List Nat) (hall : ordersOf .any l.toArray l.length (Array.replicate l.length false) [] = [i1, i2])
    (h1 : wpListIn F n P l.toArray Q (opsAt l.toArray i1) a w.drew) (h2 : wpListIn F n P l.toArray Q (opsAt l.toArray i2) a w.drew) : (Code.region id l.toArray true).wpIn F n P Q a w :=
  wpIn_region_orders hm _ hall (by intro x hx; simp at hx; rcases hx with rfl | rfl <;> assumption)
theorem wpOps_of (l : List Nat) : ∀ (a : Act) (w : World), wpList P ops Q (opsAt ops l) a w → wpOps P ops Q l a w := by
  induction l with
  | nil => intro a w h; exact h
  | cons i l ih =>
    intro a w h
    rw [wpOps]
    cases ho : ops[i]? with
    | none => simp only [opsAt, List.filterMap_cons, ho] at h; exact ih a w h
    | some o =>
      simp only [opsAt, List.filterMap_cons, ho, wpList] at h
      dsimp only
      split
      · rename_i hw
        rw [if_pos hw] at h
        have e : wpOps P ops Q l = fun a w => wpOps P ops Q l a w := rfl
        rcases h with h | h
        · exact .inl (Oper.wp_mono (fun a' w' h' => ih a' w' h') h)
        · exact .inr h
      · rename_i hw
        rw [if_neg hw] at h
        exact ih _ _ h
theorem wp_region_orders {id : Nat} {a : Act} {w : World} {l : List Oper} (hm : P.follows .mixedOrders = true) (is : List (List Nat)) (hall : ordersOf .any l.toArray l.length (Array.replicate l.length false) [] = is)
    (h : ∀ x ∈ is, wpList P l.toArray Q (opsAt l.toArray x) a w.drew) : (Code.region id l.toArray true).wp P Q a w :=
  wp_region_draw fun t => by
    simp only [Region.schedule, hm, Bool.true_or, if_true, Region.linearise]
    refine wpOps_of _ _ _ (h _ ?_)
    rw [← hall]
    have := go_mem .any l.toArray l.toArray.size t (Array.replicate l.toArray.size false) []
    simpa using this
theorem wp_region_two {id : Nat} {a : Act} {w : World} {l : List Oper} (hm : P.follows .mixedOrders = true) (i1 i2 : List Nat) (hall : ordersOf .any l.toArray l.length (Array.replicate l.length false) [] = [i1, i2])
    (h1 : wpList P l.toArray Q (opsAt l.toArray i1) a w.drew) (h2 : wpList P l.toArray Q (opsAt l.toArray i2) a w.drew) : (Code.region id l.toArray true).wp P Q a w :=
  wp_region_orders hm _ hall (by intro x hx; simp at hx; rcases hx with rfl | rfl <;> assumption)
end
end Go.Proofs.YtnnknnaimabehaaDoor
