/- The law's ask and alive. -/
import Derived.Test.YtcipleanckeoaaaDoorZBusPlay
import Derived.Test.YtcipleanckeoaaaDoorZBusLawP
import Derived.Test.YtcipleanckeoaaaDoorZPduFrom
namespace Go.Proofs.YtcipleanckeoaaaDoor
open Go.RowKit
attribute [local go_sem] Oper.semAt_some
set_option linter.unusedVariables false
set_option linter.unusedSimpArgs false
set_option maxRecDepth 100000
end Go.Proofs.YtcipleanckeoaaaDoor
