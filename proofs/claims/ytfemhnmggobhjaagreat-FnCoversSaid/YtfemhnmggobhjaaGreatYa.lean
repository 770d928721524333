/- The search for a word that tells two states apart, from any pair, in the program; what the word is. No condition. Printed by genya.py. -/
import Derived.Test.YtfemhnmggobhjaaGreatJa
import Derived.Test.YtfemhnmggobhjaaGreatNh
import Derived.Test.YtfemhnmggobhjaaGreatFwW
namespace Go.Proofs.YtfemhnmggobhjaaGreat
open Go
attribute [local irreducible] awp awpL awpQL awpQ awpM pWalk Qt AC thenQ blockQ loopQ OpTo
set_option linter.unusedVariables false
set_option linter.unusedSimpArgs false
set_option maxHeartbeats 2000000
attribute [local irreducible] HC
section
variable {s o s' o' : Int} {nx ou nx' ou' : List (List Int)} {c0 : Nat}
end
section
variable {s o s' o' : Int} {nx ou nx' ou' : List (List Int)} {c0 : Nat}
end
section
variable {s o : Int} {nx ou : List (List Int)} {a b : Nat}
end
end Go.Proofs.YtfemhnmggobhjaaGreat
namespace Go.Proofs.YtfemhnmggobhjaaGreat
open Go
attribute [local irreducible] awp awpL awpQL awpQ awpM pWalk Qt AC thenQ blockQ loopQ OpTo
set_option linter.unusedVariables false
set_option linter.unusedSimpArgs false
set_option maxHeartbeats 2000000
attribute [local irreducible] HC
section
variable {s o : Int} {nx ou : List (List Int)}
end
end Go.Proofs.YtfemhnmggobhjaaGreat
