/- bus.pieces: its iterator's contract. -/
import Derived.Test.YtcipleanckeoaaaDoorZBusApp
import Derived.Test.YtcipleanckeoaaaDoorZBusActs
import Derived.LoopIn
import Derived.LoopNIn
import Derived.OwnWalkIn
import Derived.TacticsInMore
namespace Go.Proofs.YtcipleanckeoaaaDoor
open Go.RowKit
attribute [local go_sem] Oper.semAt_some
set_option linter.unusedVariables false
set_option linter.unusedSimpArgs false
set_option maxRecDepth 100000
end Go.Proofs.YtcipleanckeoaaaDoor
