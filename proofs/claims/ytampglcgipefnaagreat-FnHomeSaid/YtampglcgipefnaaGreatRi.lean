/- The law of HomeDeeds. No condition. -/
import Derived.Test.YtampglcgipefnaaGreatRf
import Derived.Test.YtampglcgipefnaaGreatRg
import Derived.Test.YtampglcgipefnaaGreatOs
namespace Go.Proofs.YtampglcgipefnaaGreat
open Go
attribute [local irreducible] awp awpL awpQL awpQ awpM pWalk Qt AC thenQ blockQ loopQ OpTo
set_option linter.unusedVariables false
set_option linter.unusedSimpArgs false
set_option maxHeartbeats 2000000
attribute [local irreducible] HC

end Go.Proofs.YtampglcgipefnaaGreat
