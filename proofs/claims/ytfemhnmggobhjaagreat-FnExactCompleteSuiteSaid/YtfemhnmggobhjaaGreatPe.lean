/- Contracts of FirstFailing and Passes, in the program and in the reference. No condition. -/
import Derived.Test.YtfemhnmggobhjaaGreatPb
import Derived.Test.YtfemhnmggobhjaaGreatKf
import Derived.Test.YtfemhnmggobhjaaGreatNh
import Derived.Test.YtfemhnmggobhjaaGreatCa
import Derived.Test.YtfemhnmggobhjaaGreatFwY
namespace Go.Proofs.YtfemhnmggobhjaaGreat
open Go
attribute [local irreducible] awp awpL awpQL awpQ awpM pWalk Qt AC thenQ blockQ loopQ OpTo
set_option linter.unusedVariables false
set_option linter.unusedSimpArgs false
set_option maxHeartbeats 2000000

end Go.Proofs.YtfemhnmggobhjaaGreat

/-! Contracts of Passes; the laws of FirstFailing and of Passes. No condition. -/
namespace Go.Proofs.YtfemhnmggobhjaaGreat
open Go
attribute [local irreducible] awp awpL awpQL awpQ awpM pWalk Qt AC thenQ blockQ loopQ OpTo
set_option linter.unusedVariables false
set_option linter.unusedSimpArgs false
set_option maxHeartbeats 2000000

end Go.Proofs.YtfemhnmggobhjaaGreat

/-! What is asked of a valid machine and a valid suite. No condition. -/
namespace Go.Proofs.YtfemhnmggobhjaaGreat
open Go
attribute [local irreducible] awp awpL awpQL awpQ awpM pWalk Qt AC thenQ blockQ loopQ OpTo
set_option linter.unusedVariables false
set_option linter.unusedSimpArgs false
set_option maxHeartbeats 2000000
attribute [local irreducible] HC

theorem SuOk.rows {n : Nat} {ws : List (List Int)} (h : SuOk n ws) (hn : n ≤ 1000) : RowsOk ws :=
  ⟨fun w hw => ⟨fun l hl => by have := (h.all w hw).2 l hl; exact ⟨by omega, by omega⟩, by have := (h.all w hw).1; omega⟩, by have := h.len; omega⟩


section
variable {s o k : Int} {nx ou ws os : List (List Int)}
end

end Go.Proofs.YtfemhnmggobhjaaGreat

/-! The reference's draw of a machine that is like another one. No condition. -/
namespace Go.Proofs.YtfemhnmggobhjaaGreat
open Go
attribute [local irreducible] awp awpL awpQL awpQ awpM pWalk Qt AC thenQ blockQ loopQ OpTo
set_option linter.unusedVariables false
set_option linter.unusedSimpArgs false
set_option maxHeartbeats 2000000
attribute [local irreducible] HC

section
variable {code : List Int} {S O s : Int} {r ro : List Int} {nx ou : List (List Int)} {u : Src}
end
/-! ### The walk -/
end Go.Proofs.YtfemhnmggobhjaaGreat

/-! The law of Failing. No condition. -/
namespace Go.Proofs.YtfemhnmggobhjaaGreat
open Go
attribute [local irreducible] awp awpL awpQL awpQ awpM pWalk Qt AC thenQ blockQ loopQ OpTo
set_option linter.unusedVariables false
set_option linter.unusedSimpArgs false
set_option maxHeartbeats 2000000
attribute [local irreducible] HC

section
variable {s o s' o' : Int} {nx ou nx' ou' : List (List Int)}
end

/-! ### Where a machine fails -/
end Go.Proofs.YtfemhnmggobhjaaGreat
