/- The reference's draw of a machine with equivalent states, and of a machine. No condition. -/
import Derived.Test.YtfemhnmggobhjaaKc
import Derived.Test.YtfemhnmggobhjaaFwX
import Derived.Test.YtfemhnmggobhjaaMa
namespace Go.Proofs.Ytfemhnmggobhjaa
open Go
attribute [local irreducible] awp awpL awpQL awpQ awpM pWalk Qt AC thenQ blockQ loopQ OpTo
set_option linter.unusedVariables false
set_option linter.unusedSimpArgs false
set_option maxHeartbeats 2000000
attribute [local irreducible] HC

end Go.Proofs.Ytfemhnmggobhjaa
