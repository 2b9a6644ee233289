/- The chapter's first examples: kilowattlaw19.three, alive; bytes as a string. -/
import Derived.Test.YtcipleanckeoaaaDoorPduAnswer
import Derived.Test.YtcipleanckeoaaaDoorPduFrom
namespace Go.Proofs.YtcipleanckeoaaaDoor
open Go.RowKit

def threeP : AskP := ⟨3, 107, 3, 0, [], []⟩
theorem three_at (w : World) : AskAt w (.agg #[.int .i64 3, .int .i64 107, .int .i64 3, .int .i64 0, .slice none 0 0, .slice none 0 0]) threeP := ⟨none, 0, 0, none, 0, 0, rfl, SlB.nil _ _, SlI.nil _ _ _⟩
theorem reg_nil : Reg16 [] := fun x hx => by simp at hx
end Go.Proofs.YtcipleanckeoaaaDoor
