/- What can be believed from a set on, and the entries of maps: plain facts. No condition. -/
import Derived.Test.YtckpadnjldebaaaGreatDc
namespace Go.Proofs.YtckpadnjldebaaaGreat
open Go
attribute [local irreducible] awp awpL awpQL awpQ awpM pWalk Qt AC thenQ blockQ loopQ OpTo
set_option linter.unusedVariables false
set_option linter.unusedSimpArgs false
set_option maxHeartbeats 2000000
attribute [local irreducible] HC
structure LOk (N fr : Nat) (l : List Nat) : Prop where
  nd : l.Nodup
  lt : ∀ f ∈ l, f < N
  fr : fr ∈ l
theorem LOk.len {N fr : Nat} {l : List Nat} (h : LOk N fr l) : l.length <= N := nodup_le N l h.nd h.lt
end Go.Proofs.YtckpadnjldebaaaGreat
namespace Go.Proofs.YtckpadnjldebaaaGreat
open Go
attribute [local irreducible] awp awpL awpQL awpQ awpM pWalk Qt AC thenQ blockQ loopQ OpTo
set_option linter.unusedVariables false
set_option linter.unusedSimpArgs false
set_option maxHeartbeats 2000000
attribute [local irreducible] HC
end Go.Proofs.YtckpadnjldebaaaGreat
namespace Go.Proofs.YtckpadnjldebaaaGreat
open Go
attribute [local irreducible] awp awpL awpQL awpQ awpM pWalk Qt AC thenQ blockQ loopQ OpTo
set_option linter.unusedVariables false
set_option linter.unusedSimpArgs false
set_option maxHeartbeats 2000000
attribute [local irreducible] HC
def fl (l : List Nat) : List D := l.map fun f : Nat => D.int .u64 f
end Go.Proofs.YtckpadnjldebaaaGreat
