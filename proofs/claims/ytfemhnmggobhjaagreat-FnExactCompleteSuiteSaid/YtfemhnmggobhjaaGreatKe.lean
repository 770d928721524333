/- The reference's draw of a machine with equivalent states, and of a machine. No condition. -/
import Derived.Test.YtfemhnmggobhjaaGreatKc
import Derived.Test.YtfemhnmggobhjaaGreatFwX
import Derived.Test.YtfemhnmggobhjaaGreatMa
namespace Go.Proofs.YtfemhnmggobhjaaGreat
open Go
attribute [local irreducible] awp awpL awpQL awpQ awpM pWalk Qt AC thenQ blockQ loopQ OpTo
set_option linter.unusedVariables false
set_option linter.unusedSimpArgs false
set_option maxHeartbeats 2000000
attribute [local irreducible] HC

/-! ### A state is doubled -/
end Go.Proofs.YtfemhnmggobhjaaGreat
