/- Which words stay in a suite: plain facts, and the reference. No condition. -/
import Derived.Test.YtfemhnmggobhjaaTa
namespace Go.Proofs.Ytfemhnmggobhjaa
open Go
attribute [local irreducible] awp awpL awpQL awpQ awpM pWalk Qt AC thenQ blockQ loopQ OpTo
set_option linter.unusedVariables false
set_option linter.unusedSimpArgs false
set_option maxHeartbeats 2000000
attribute [local irreducible] HC
open Go.RowKit (Below)

end Go.Proofs.Ytfemhnmggobhjaa
