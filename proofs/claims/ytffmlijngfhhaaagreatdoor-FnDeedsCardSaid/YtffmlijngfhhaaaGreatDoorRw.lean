/- Words read from texts; slices of texts in a walk. No condition but bounds. -/
import Derived.Test.YtffmlijngfhhaaaGreatDoorWa
import Derived.Test.YtffmlijngfhhaaaGreatDoorFwY
namespace Go.Proofs.YtffmlijngfhhaaaGreatDoor
open Go
attribute [local irreducible] awp awpL awpQL awpQ awpM pWalk Qt AC thenQ blockQ loopQ OpTo
set_option linter.unusedVariables false
set_option linter.unusedSimpArgs false
set_option maxHeartbeats 2000000
attribute [local irreducible] HC

section
variable {cx : Cx} {h : Heap} {s : Nat → SV} {dst : Option Nat} {ty : Nat} {pos : String} {af : Array Edge} {gd : Option (Nat × Bool)}
end
end Go.Proofs.YtffmlijngfhhaaaGreatDoor
