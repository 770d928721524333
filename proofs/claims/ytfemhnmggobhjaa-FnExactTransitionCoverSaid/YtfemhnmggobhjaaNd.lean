/- The program's machine whose states are picked, for all states. No condition. -/
import Derived.Test.YtfemhnmggobhjaaNa
namespace Go.Proofs.Ytfemhnmggobhjaa
open Go
attribute [local irreducible] awp awpL awpQL awpQ awpM pWalk Qt AC thenQ blockQ loopQ OpTo
set_option linter.unusedVariables false
set_option linter.unusedSimpArgs false
set_option maxHeartbeats 2000000
attribute [local irreducible] HC

end Go.Proofs.Ytfemhnmggobhjaa
