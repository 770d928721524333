/- The reference's draw of a machine, walked. No condition. -/
import Derived.Test.YtfemhnmggobhjaaGreatKa
namespace Go.Proofs.YtfemhnmggobhjaaGreat
open Go
attribute [local irreducible] awp awpL awpQL awpQ awpM pWalk Qt AC thenQ blockQ loopQ OpTo
set_option linter.unusedVariables false
set_option linter.unusedSimpArgs false
set_option maxHeartbeats 2000000
attribute [local irreducible] HC

end Go.Proofs.YtfemhnmggobhjaaGreat

/-! The reference's draw of a machine, walked. No condition. -/
namespace Go.Proofs.YtfemhnmggobhjaaGreat
open Go
attribute [local irreducible] awp awpL awpQL awpQ awpM pWalk Qt AC thenQ blockQ loopQ OpTo
set_option linter.unusedVariables false
set_option linter.unusedSimpArgs false
set_option maxHeartbeats 2000000
attribute [local irreducible] HC

end Go.Proofs.YtfemhnmggobhjaaGreat
