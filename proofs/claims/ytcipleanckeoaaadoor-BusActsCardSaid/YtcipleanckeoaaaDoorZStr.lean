/- A drawn region's held fact may be made stronger on the way. No program in sight. -/
import Derived.OrdersHeld
namespace Go.Proofs.YtcipleanckeoaaaDoor
open Go
theorem wpAnyH_str {P : Program} {md : Region.Mode} {ops : Array Oper} {Q : Exit → Act → World → Prop} {S S' : World → Prop} (h : ∀ w, S' w → S w) : ∀ (fuel : Nat) (listed : Array Bool) (a : Act) (w : World), wpAnyH P md ops Q S' fuel listed a w → wpAnyH P md ops Q S fuel listed a w
 | 0, _, _, _, H => H
 | fuel + 1, _, _, _, H => ⟨H.1, fun i hi => wpOp_mono (fun a' w' h' => ⟨h _ h'.1, wpAnyH_str h fuel _ a' w' h'.2⟩) (H.2 i hi)⟩
end Go.Proofs.YtcipleanckeoaaaDoor
