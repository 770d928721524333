/- Deeds in the laws' package, and RefusedDeed in the program. No condition. -/
import Derived.Test.YtckpadnjldebaaaGreatOb
import Derived.Test.YtckpadnjldebaaaGreatOf
namespace Go.Proofs.YtckpadnjldebaaaGreat
open Go
attribute [local irreducible] awp awpL awpQL awpQ awpM pWalk Qt AC thenQ blockQ loopQ OpTo
set_option linter.unusedVariables false
set_option linter.unusedSimpArgs false
set_option maxHeartbeats 2000000
attribute [local irreducible] HC
end Go.Proofs.YtckpadnjldebaaaGreat
