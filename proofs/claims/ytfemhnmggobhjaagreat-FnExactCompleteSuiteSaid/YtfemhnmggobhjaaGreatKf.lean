/- What the laws' package asks of numbers and machines, suites that are drawn, outputs for words. No condition. -/
import Derived.Test.YtfemhnmggobhjaaGreatKe
import Derived.Test.YtfemhnmggobhjaaGreatNh
namespace Go.Proofs.YtfemhnmggobhjaaGreat
open Go
attribute [local irreducible] awp awpL awpQL awpQ awpM pWalk Qt AC thenQ blockQ loopQ OpTo
set_option linter.unusedVariables false
set_option linter.unusedSimpArgs false
set_option maxHeartbeats 2000000
attribute [local irreducible] HC

end Go.Proofs.YtfemhnmggobhjaaGreat
