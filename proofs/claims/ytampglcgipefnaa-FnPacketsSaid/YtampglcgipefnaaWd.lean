/- Contracts of what tells valid automata and lit automata in the reference. No condition. -/
import Derived.Test.YtampglcgipefnaaWc
import Derived.Test.YtampglcgipefnaaFwT
namespace Go.Proofs.Ytampglcgipefnaa
open Go
attribute [local irreducible] awp awpL awpQL awpQ awpM pWalk Qt AC thenQ blockQ loopQ OpTo
set_option linter.unusedVariables false
set_option linter.unusedSimpArgs false
set_option maxHeartbeats 2000000

end Go.Proofs.Ytampglcgipefnaa

/-! Contracts of how the laws' package measures, copies and compares lit automata; the law of ValidLit. No condition. -/
namespace Go.Proofs.Ytampglcgipefnaa
open Go
attribute [local irreducible] awp awpL awpQL awpQ awpM pWalk Qt AC thenQ blockQ loopQ OpTo
set_option linter.unusedVariables false
set_option linter.unusedSimpArgs false
set_option maxHeartbeats 2000000

end Go.Proofs.Ytampglcgipefnaa
