/- Texts of words and suites, but for the program's SuiteText. No condition but bounds. -/
import Derived.Test.YtffmlijngfhhaaaDoorWa
import Derived.Test.YtffmlijngfhhaaaDoorFwW
namespace Go.Proofs.YtffmlijngfhhaaaDoor
open Go
attribute [local irreducible] awp awpL awpQL awpQ awpM pWalk Qt AC thenQ blockQ loopQ OpTo
set_option linter.unusedVariables false
set_option linter.unusedSimpArgs false
set_option maxHeartbeats 2000000
attribute [local irreducible] HC

/-! ### Plain -/
end Go.Proofs.YtffmlijngfhhaaaDoor
