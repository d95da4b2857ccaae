/- Walks, printed by a program of this session (gowalk.py): each Go function comes to its plain function's answer. -/
import Derived.Test.YtdbheiibkpendaaSdA
import Derived.Test.YtdbheiibkpendaaSdD
import Derived.Test.YtdbheiibkpendaaMSdS
import Derived.Test.YtdbheiibkpendaaSdV0
import Derived.Test.YtdbheiibkpendaaSdV1
namespace Go.Proofs.Sd
open Go Go.Gw D
set_option linter.unusedVariables false
set_option maxRecDepth 20000

end Go.Proofs.Sd
