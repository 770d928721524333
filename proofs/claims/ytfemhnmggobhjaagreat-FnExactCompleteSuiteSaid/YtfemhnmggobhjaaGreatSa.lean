/- Bits as operations of the logic; sets of states as bits and as rising lists. No condition. -/
import Derived.Test.YtfemhnmggobhjaaGreatPa
import Derived.Test.YtfemhnmggobhjaaGreatMa
namespace Go.Proofs.YtfemhnmggobhjaaGreat
open Go
attribute [local irreducible] awp awpL awpQL awpQ awpM pWalk Qt AC thenQ blockQ loopQ OpTo
set_option linter.unusedVariables false
set_option linter.unusedSimpArgs false
set_option maxHeartbeats 2000000
attribute [local irreducible] HC
open Go.RowKit (Below)

section
variable {cx : Cx} {h : Heap} {s : Nat → SV} {dst : Option Nat} {ty : Nat} {pos : String} {af : Array Edge} {gd : Option (Nat × Bool)}

end
end Go.Proofs.YtfemhnmggobhjaaGreat
