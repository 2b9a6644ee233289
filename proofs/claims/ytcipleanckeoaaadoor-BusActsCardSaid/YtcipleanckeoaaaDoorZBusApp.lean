/- append of structs, with what all cells of the row's block are, the spare ones too. No program in sight. -/
import Derived.Test.YtcipleanckeoaaaDoorZCommon
import Derived.Maps.AppendAt
import Derived.Maps.OwnIn
import Derived.RangeFuncNested
import Derived.RangeFuncBox
import Derived.RangeFuncCalls
namespace Go.Proofs.YtcipleanckeoaaaDoor
open Go.RowKit
set_option linter.unusedVariables false
def AllC (W : World) (v : Value) (Q : Value → Prop) : Prop := ∀ g cs t fr, v.ownBlock = some g → W.heap[g]? = some (.cells cs t fr) → ∀ u ∈ cs.toList, Q u
theorem AllC.same {W W' : World} {v : Value} {Q : Value → Prop} (h : AllC W v Q) (hs : ∀ g, v.ownBlock = some g → W'.heap[g]? = W.heap[g]?) : AllC W' v Q := fun g cs t fr hv hg => h g cs t fr hv ((hs g hv).symm.trans hg)
theorem AllC.none (W : World) (Q : Value → Prop) : AllC W (.slice none 0 0) Q := fun g cs t fr hv => by simp [Value.ownBlock] at hv
theorem AllC.ne {W : World} {v : Value} {Q : Value → Prop} (h : AllC W v Q) {p : Addr} {x : Value} (hx : W.cell? p = some x) (hn : ¬ Q x) : v.ownBlock ≠ some p.block := fun hv => by
 unfold World.cell? at hx
 split at hx
 ·rename_i cs t fr hg
  have hx : (if p.spot.isSome = true then Option.none else cs[p.off]?) = some x := hx
  by_cases hsp : p.spot.isSome = true
  ·rw [if_pos hsp] at hx; cases hx
  ·rw [if_neg hsp] at hx
   exact hn (h p.block cs t fr hv hg x (Array.mem_toList_iff.mpr (Array.mem_of_getElem? hx)))
 ·cases hx
end Go.Proofs.YtcipleanckeoaaaDoor
namespace Go.Proofs.YtcipleanckeoaaaDoor
open Go.RowKit
section
variable {F : Fence} {n : Nat} {P : Program}
end
end Go.Proofs.YtcipleanckeoaaaDoor
