/- Lines of machines in the reference: packets and deeds. No condition. -/
import Derived.Test.YtampglcgipefnaaOa
import Derived.Test.YtampglcgipefnaaNa
import Derived.Test.YtampglcgipefnaaSg
import Derived.Test.YtampglcgipefnaaFwZa
import Derived.Test.YtampglcgipefnaaFwZb
import Derived.Test.YtampglcgipefnaaFwY
namespace Go.Proofs.Ytampglcgipefnaa
open Go
attribute [local irreducible] awp awpL awpQL awpQ awpM pWalk Qt AC thenQ blockQ loopQ OpTo
set_option linter.unusedVariables false
set_option linter.unusedSimpArgs false
set_option maxHeartbeats 2000000
attribute [local irreducible] HC

def ltD (s : Int) (nx : List (List Int)) (lp : List Int) : D := .agg [.int .i64 s, rows nx, ints lp]
end Go.Proofs.Ytampglcgipefnaa

/-! Lines of machines in the reference: deeds with packets. No condition. -/
namespace Go.Proofs.Ytampglcgipefnaa
open Go
attribute [local irreducible] awp awpL awpQL awpQ awpM pWalk Qt AC thenQ blockQ loopQ OpTo
set_option linter.unusedVariables false
set_option linter.unusedSimpArgs false
set_option maxHeartbeats 2000000
attribute [local irreducible] HC

end Go.Proofs.Ytampglcgipefnaa

/-! Lines of machines in the reference: a deed is done. No condition. -/
namespace Go.Proofs.Ytampglcgipefnaa
open Go
attribute [local irreducible] awp awpL awpQL awpQ awpM pWalk Qt AC thenQ blockQ loopQ OpTo
set_option linter.unusedVariables false
set_option linter.unusedSimpArgs false
set_option maxHeartbeats 2000000
attribute [local irreducible] HC

end Go.Proofs.Ytampglcgipefnaa

/-! Lines of machines in the reference: behind deeds. No condition. -/
namespace Go.Proofs.Ytampglcgipefnaa
open Go
attribute [local irreducible] awp awpL awpQL awpQ awpM pWalk Qt AC thenQ blockQ loopQ OpTo
set_option linter.unusedVariables false
set_option linter.unusedSimpArgs false
set_option maxHeartbeats 2000000
attribute [local irreducible] HC

end Go.Proofs.Ytampglcgipefnaa
