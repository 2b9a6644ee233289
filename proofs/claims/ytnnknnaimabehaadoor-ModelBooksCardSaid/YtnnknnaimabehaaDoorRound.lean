/- In a round of a range over a function, at the widest fence: a region that draws its order, by the plain laws on orders. -/
import Derived.Test.YtnnknnaimabehaaDoorOrders
import Derived.RangeFuncNested
import Derived.OrdersHeld
import Derived.OrdersIn
import Derived.RangeFuncCalls
namespace Go.Proofs.YtnnknnaimabehaaDoor
open Go.RowKit

section
variable {P : Program} {ops : Array Oper} {Q : Exit → Act → World → Prop} {md : Region.Mode} {n r : Nat}
def noDefer (o : Oper) : Bool := match o.op with
  | .defer _ => false
  | _ => true
theorem noDefer_ne {o : Oper} (h : noDefer o = true) : ∀ c, o.op ≠ .defer c := by
  intro c e
  rw [noDefer, e] at h
  cases h
theorem rowsIn_of {row : String} {args : Array Value} {w : World} {R : Value → World → Prop} (h : Rows P row args w R) : RowsIn (Fence.wide.inRound r) n P row args w R :=
  fun c cs _ => let ⟨v, w', hr, hs⟩ := h c cs; ⟨v, w', hr, stepsIn_wide.2 hs⟩
theorem wpIn_of_wp {o : Oper} {a : Act} {w : World} {K : Act → World → Prop} (hd : noDefer o = true) (h : o.wp P a w K Q) : o.wpIn (Fence.wide.inRound r) n P a w K Q := by
  unfold Oper.wp at h
  unfold Oper.wpIn
  refine ⟨fun _ _ => trivial, ?_⟩
  rw [Oper.semAt_eq _ _ _ (noDefer_ne hd)]
  generalize (execOp a.eval o).run P w = res at *
  cases res with
  | ok x w' =>
    cases x <;> simp only [Oper.upon, Oper.uponIn] at h ⊢ <;>
      first
        | exact h
        | exact ⟨fun hh => by simp [Fence.wide, Fence.inRound] at hh, CallsIn.inRound r (callsIn_wide.2 h)⟩
        | exact ⟨fun hh => by simp [Fence.wide, Fence.inRound] at hh, rowsIn_of h⟩
        | exact h.elim
  | halt x w' => cases x <;> simp only [Oper.upon, Oper.uponIn] at h ⊢ <;> exact h
theorem wpAnyIn_of_wpAny (hd : ∀ (i : Nat) o, ops[i]? = some o → noDefer o = true) (hl : ¬ LetsOut Q) : ∀ (fuel : Nat) (listed : Array Bool) (a : Act) (w : World), wpAny P md ops Q fuel listed a w → wpAnyIn (Fence.wide.inRound r) n P md ops Q fuel listed a w
  | 0, _, _, _, h => h
  | fuel + 1, _, _, _, h => ⟨h.1, fun i hi => by
    have hi' := h.2 i hi
    unfold wpOp at hi'
    unfold wpOpIn
    cases ho : ops[i]? with
    | none => simp only [ho] at hi' ⊢; exact wpAnyIn_of_wpAny hd hl fuel _ _ _ hi'
    | some o =>
      simp only [ho] at hi' ⊢
      split
      · rename_i hw
        simp only [hw, if_true] at hi'
        exact wpIn_of_wp (hd i o ho) (Oper.wp_mono (fun a' w' h' => wpAnyIn_of_wpAny hd hl fuel _ _ _ h') (hi'.resolve_right fun x => hl x.2))
      · rename_i hw
        simp only [hw] at hi'
        exact ⟨fun _ _ => trivial, wpAnyIn_of_wpAny hd hl fuel _ _ _ hi'⟩⟩
theorem allNoDefer {l : List Oper} (h : l.all noDefer = true) : ∀ (i : Nat) o, l.toArray[i]? = some o → noDefer o = true := by
  intro i o ho
  exact List.all_eq_true.1 h o (List.mem_of_getElem? (by simpa using ho))
/-- A region that draws its order, in a round: by 'wpAnyH', loads taken first where S is kept. -/
theorem round_region_held {id : Nat} {a : Act} {w : World} {l : List Oper} (S : World → Prop) (hm : P.follows .mixedOrders = true) (hd : l.all noDefer = true) (hl : ¬ LetsOut Q)
    (h : wpAnyH P .any l.toArray Q S l.length (Array.replicate l.length false) a w.drew) : (Code.region id l.toArray true).wpIn (Fence.wide.inRound r) n P Q a w :=
  wpIn_region_any hm (wpAnyIn_of_wpAny (allNoDefer hd) hl _ _ _ _ (wpAny_of_held _ _ _ _ (by simpa using h)))
/-- The same, by the plain walk over the region's finitely many orders. -/
theorem round_region_orders {id : Nat} {a : Act} {w : World} {l : List Oper} (hm : P.follows .mixedOrders = true) (hd : l.all noDefer = true) (hl : ¬ LetsOut Q)
    (h : wpAny P .any l.toArray Q l.length (Array.replicate l.length false) a w.drew) : (Code.region id l.toArray true).wpIn (Fence.wide.inRound r) n P Q a w :=
  wpIn_region_any hm (wpAnyIn_of_wpAny (allNoDefer hd) hl _ _ _ _ (by simpa using h))
theorem ownPostG_notOut {α : Type} {B : Nat} {Kp : World → World → Prop} {I : List α → World → Prop} {Ix : Code → List α → World → Prop} {xs : List α} {W : World} (id : Nat) : ¬ LetsOut (Exit.inBlock id (ownPostG B Kp I Ix xs W)) := by
  rintro ⟨a, w, h⟩
  exact h
end
end Go.Proofs.YtnnknnaimabehaaDoor
