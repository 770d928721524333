/- Machines by their numbers: how many there are, their tables; the machine with a number in the reference. No condition. -/
import Derived.Test.YtfemhnmggobhjaaGreatCa
import Derived.Test.YtfemhnmggobhjaaGreatTa
namespace Go.Proofs.YtfemhnmggobhjaaGreat
open Go
attribute [local irreducible] awp awpL awpQL awpQ awpM pWalk Qt AC thenQ blockQ loopQ OpTo
set_option linter.unusedVariables false
set_option linter.unusedSimpArgs false
set_option maxHeartbeats 2000000
attribute [local irreducible] HC
section
variable {s o : Int} {nx ou : List (List Int)}
end
def tabI (L n : Nat) (F : Nat → Nat → Int) : List (List Int) := (List.range L).map fun l => fnL n (F l)
@[simp] theorem tabI_length {L n : Nat} {F : Nat → Nat → Int} : (tabI L n F).length = L := by simp [tabI]
theorem tabI_snoc {L n : Nat} {F : Nat → Nat → Int} : tabI (L + 1) n F = tabI L n F ++ [fnL n (F L)] := by simp [tabI, List.range_succ]
section
variable {s o : Int} {nx ou : List (List Int)}
end
end Go.Proofs.YtfemhnmggobhjaaGreat
