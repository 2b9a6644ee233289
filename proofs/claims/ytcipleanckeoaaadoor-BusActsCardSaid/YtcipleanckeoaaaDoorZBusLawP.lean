/- The plain law of right bytes: what is asked by a frame and answered by registers. -/
import Derived.Test.YtcipleanckeoaaaDoorZBusPlayP
import Derived.Test.YtcipleanckeoaaaDoorZPduBytes
import Derived.Laws.BitsAllLaws
import Derived.Test.YtcipleanckeoaaaDoorZPduBase
namespace Go.Proofs.YtcipleanckeoaaaDoor
open Go.RowKit
set_option linter.unusedVariables false
set_option linter.unusedSimpArgs false
end Go.Proofs.YtcipleanckeoaaaDoor
namespace Go.Proofs.YtcipleanckeoaaaDoor
open Go.RowKit
set_option linter.unusedVariables false
set_option linter.unusedSimpArgs false
end Go.Proofs.YtcipleanckeoaaaDoor
namespace Go.Proofs.YtcipleanckeoaaaDoor
open Go.RowKit
end Go.Proofs.YtcipleanckeoaaaDoor
