/- KilledBy, in the reference and in the program, and its law. No condition. -/
import Derived.Test.YtfondjnjdcijaaaDoorNd
import Derived.Test.YtfondjnjdcijaaaDoorPb
namespace Go.Proofs.YtfondjnjdcijaaaDoor
open Go
attribute [local irreducible] awp awpL awpQL awpQ awpM pWalk Qt AC thenQ blockQ loopQ OpTo
set_option linter.unusedVariables false
set_option linter.unusedSimpArgs false
set_option maxHeartbeats 2000000
attribute [local irreducible] HC

structure SuOk (n : Nat) (ws : List (List Int)) : Prop where
  len : ws.length ≤ 400
  all : ∀ w ∈ ws, w.length ≤ 400 ∧ ∀ l ∈ w, 0 ≤ l ∧ l < n

end Go.Proofs.YtfondjnjdcijaaaDoor
