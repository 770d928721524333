/- Texts of suites: the reference, SuiteCost, and the laws of SuiteText and SuiteCost. No condition but bounds. -/
import Derived.Test.YtfondjnjdcijaaaDoorTy
import Derived.Test.YtfondjnjdcijaaaDoorTz
namespace Go.Proofs.YtfondjnjdcijaaaDoor
open Go
attribute [local irreducible] awp awpL awpQL awpQ awpM pWalk Qt AC thenQ blockQ loopQ OpTo
set_option linter.unusedVariables false
set_option linter.unusedSimpArgs false
set_option maxHeartbeats 2000000
attribute [local irreducible] HC

/-! ### SuiteCost -/
end Go.Proofs.YtfondjnjdcijaaaDoor
