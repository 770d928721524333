/- What is told of a line: in the reference and in the program. No condition. -/
import Derived.Test.YtampglcgipefnaaOi
namespace Go.Proofs.Ytampglcgipefnaa
open Go
attribute [local irreducible] awp awpL awpQL awpQ awpM pWalk Qt AC thenQ blockQ loopQ OpTo
set_option linter.unusedVariables false
set_option linter.unusedSimpArgs false
set_option maxHeartbeats 2000000
attribute [local irreducible] HC

theorem ris_le10 {s : Int} {l : List Int} (hs : s ≤ 10) (h1 : ∀ q ∈ l, 0 ≤ q ∧ q < s) (h2 : l.Pairwise (· < ·)) : l.length ≤ 10 := by
  have := incr_len h2 0 fun q hq => by have := h1 q hq; omega
  omega

end Go.Proofs.Ytampglcgipefnaa
