/- Lines of machines in the program: packets. No condition. -/
import Derived.Test.YtckpadnjldebaaaGreatOb
import Derived.Test.YtckpadnjldebaaaGreatRa
import Derived.Test.YtckpadnjldebaaaGreatFwW
namespace Go.Proofs.YtckpadnjldebaaaGreat
open Go
attribute [local irreducible] awp awpL awpQL awpQ awpM pWalk Qt AC thenQ blockQ loopQ OpTo
set_option linter.unusedVariables false
set_option linter.unusedSimpArgs false
set_option maxHeartbeats 2000000
attribute [local irreducible] HC
end Go.Proofs.YtckpadnjldebaaaGreat
namespace Go.Proofs.YtckpadnjldebaaaGreat
open Go
attribute [local irreducible] awp awpL awpQL awpQ awpM pWalk Qt AC thenQ blockQ loopQ OpTo
set_option linter.unusedVariables false
set_option linter.unusedSimpArgs false
set_option maxHeartbeats 2000000
attribute [local irreducible] HC
end Go.Proofs.YtckpadnjldebaaaGreat
namespace Go.Proofs.YtckpadnjldebaaaGreat
open Go
attribute [local irreducible] awp awpL awpQL awpQ awpM pWalk Qt AC thenQ blockQ loopQ OpTo
set_option linter.unusedVariables false
set_option linter.unusedSimpArgs false
set_option maxHeartbeats 2000000
attribute [local irreducible] HC
end Go.Proofs.YtckpadnjldebaaaGreat
