/- Contracts of FirstFailing and Passes, in the program and in the reference. No condition. -/
import Derived.Test.YtfemhnmggobhjaaPc
import Derived.Test.YtfemhnmggobhjaaKf
import Derived.Test.YtfemhnmggobhjaaNh
import Derived.Test.YtfemhnmggobhjaaCa
import Derived.Test.YtfemhnmggobhjaaFwY
namespace Go.Proofs.Ytfemhnmggobhjaa
open Go
attribute [local irreducible] awp awpL awpQL awpQ awpM pWalk Qt AC thenQ blockQ loopQ OpTo
set_option linter.unusedVariables false
set_option linter.unusedSimpArgs false
set_option maxHeartbeats 2000000

end Go.Proofs.Ytfemhnmggobhjaa

/-! Contracts of Passes; the laws of FirstFailing and of Passes. No condition. -/
namespace Go.Proofs.Ytfemhnmggobhjaa
open Go
attribute [local irreducible] awp awpL awpQL awpQ awpM pWalk Qt AC thenQ blockQ loopQ OpTo
set_option linter.unusedVariables false
set_option linter.unusedSimpArgs false
set_option maxHeartbeats 2000000

end Go.Proofs.Ytfemhnmggobhjaa

/-! What is asked of a valid machine and a valid suite. No condition. -/
namespace Go.Proofs.Ytfemhnmggobhjaa
open Go
attribute [local irreducible] awp awpL awpQL awpQ awpM pWalk Qt AC thenQ blockQ loopQ OpTo
set_option linter.unusedVariables false
set_option linter.unusedSimpArgs false
set_option maxHeartbeats 2000000
attribute [local irreducible] HC

theorem SuOk.rows {n : Nat} {ws : List (List Int)} (h : SuOk n ws) (hn : n ≤ 1000) : RowsOk ws :=
  ⟨fun w hw => ⟨fun l hl => by have := (h.all w hw).2 l hl; exact ⟨by omega, by omega⟩, by have := (h.all w hw).1; omega⟩, by have := h.len; omega⟩


section
variable {s o k : Int} {nx ou ws os : List (List Int)}
end

end Go.Proofs.Ytfemhnmggobhjaa

/-! The reference's draw of a machine that is like another one. No condition. -/
namespace Go.Proofs.Ytfemhnmggobhjaa
open Go
attribute [local irreducible] awp awpL awpQL awpQ awpM pWalk Qt AC thenQ blockQ loopQ OpTo
set_option linter.unusedVariables false
set_option linter.unusedSimpArgs false
set_option maxHeartbeats 2000000
attribute [local irreducible] HC

section
variable {code : List Int} {S O s : Int} {r ro : List Int} {nx ou : List (List Int)} {u : Src}
end
/-! ### The walk -/
end Go.Proofs.Ytfemhnmggobhjaa

/-! The law of Failing. No condition. -/
namespace Go.Proofs.Ytfemhnmggobhjaa
open Go
attribute [local irreducible] awp awpL awpQL awpQ awpM pWalk Qt AC thenQ blockQ loopQ OpTo
set_option linter.unusedVariables false
set_option linter.unusedSimpArgs false
set_option maxHeartbeats 2000000
attribute [local irreducible] HC

section
variable {s o s' o' : Int} {nx ou nx' ou' : List (List Int)}
end

/-! ### Where a machine fails -/
end Go.Proofs.Ytfemhnmggobhjaa
