/- The reference's source of draws. No condition. -/
import Derived.Test.YtfemhnmggobhjaaGreatSa
import Derived.Test.YtfemhnmggobhjaaGreatMa
import Derived.Laws.Bits64
import Derived.Test.YtfemhnmggobhjaaGreatFwS
namespace Go.Proofs.YtfemhnmggobhjaaGreat
open Go
attribute [local irreducible] awp awpL awpQL awpQ awpM pWalk Qt AC thenQ blockQ loopQ OpTo
set_option linter.unusedVariables false
set_option linter.unusedSimpArgs false
set_option maxHeartbeats 2000000
attribute [local irreducible] HC
open Go.RowKit (Below)

section
variable {cx : Cx} {h : Heap} {s : Nat → SV} {dst : Option Nat} {ty : Nat} {pos : String} {af : Array Edge} {gd : Option (Nat × Bool)}
end

structure Src where
  pos : Nat
  sd : Int
/-- A source that has not been asked too often. -/
structure SOk (s : Src) (k : Nat) : Prop where
  p : s.pos ≤ k
  r : 0 ≤ s.sd ∧ s.sd < 18446744073709551616
theorem SOk.mono {s : Src} {k k' : Nat} (h : SOk s k) (hk : k ≤ k') : SOk s k' := ⟨Nat.le_trans h.p hk, h.r⟩
end Go.Proofs.YtfemhnmggobhjaaGreat

/-! The reference's draw of a machine. No condition. -/
namespace Go.Proofs.YtfemhnmggobhjaaGreat
open Go
attribute [local irreducible] awp awpL awpQL awpQ awpM pWalk Qt AC thenQ blockQ loopQ OpTo
set_option linter.unusedVariables false
set_option linter.unusedSimpArgs false
set_option maxHeartbeats 2000000
attribute [local irreducible] HC

/-! ### What is drawn -/
end Go.Proofs.YtfemhnmggobhjaaGreat
