/- StateCover in the program, and its law. No condition. -/
import Derived.Test.YtfemhnmggobhjaaId
import Derived.Test.YtfemhnmggobhjaaTc
namespace Go.Proofs.Ytfemhnmggobhjaa
open Go
attribute [local irreducible] awp awpL awpQL awpQ awpM pWalk Qt AC thenQ blockQ loopQ OpTo
set_option linter.unusedVariables false
set_option linter.unusedSimpArgs false
set_option maxHeartbeats 2000000
attribute [local irreducible] HC HX

end Go.Proofs.Ytfemhnmggobhjaa
