/- The reference's source of draws. No condition. -/
import Derived.Test.YtffmlijngfhhaaaGreatDoorSa
import Derived.Test.YtffmlijngfhhaaaGreatDoorMa
import Derived.Laws.Bits64
import Derived.Test.YtffmlijngfhhaaaGreatDoorFwS
namespace Go.Proofs.YtffmlijngfhhaaaGreatDoor
open Go
attribute [local irreducible] awp awpL awpQL awpQ awpM pWalk Qt AC thenQ blockQ loopQ OpTo
set_option linter.unusedVariables false
set_option linter.unusedSimpArgs false
set_option maxHeartbeats 2000000
attribute [local irreducible] HC
open Go.RowKit (Below)

section
variable {cx : Cx} {h : Heap} {s : Nat → SV} {dst : Option Nat} {ty : Nat} {pos : String} {af : Array Edge} {gd : Option (Nat × Bool)}
/-- A number that fits is turned to another kind. -/
theorem qk_conv {S T : Nat} {x : Operand} {ts tt : TR} {k k' : IntKind} {n : Int} (ht : tget cx.T T = some tt) (hk : tt.kind = some k) (hs : tget cx.T S = some ts) (hx : opv s x = .d (.int k' n)) (hn : 0 ≤ n ∧ n ≤ 255) (hku : k = .u64 ∨ k = .i64) :
    Qt cx h ⟨dst, .convert S T x, ty, pos, af, gd⟩ s (.d (.int k n)) := qt_ev (by
  simp only [ev, ht, hk, hs, hx]
  rcases hku with rfl | rfl
  · rw [wrap_in (by simp [IntKind.min, IntKind.signed]; omega) (by simp [IntKind.max, IntKind.signed, IntKind.bits]; omega)]
  · rw [wrap_in (by simp [IntKind.min, IntKind.signed, IntKind.bits]; omega) (by simp [IntKind.max, IntKind.signed, IntKind.bits]; omega)])
end

structure Src where
  pos : Nat
  sd : Int
/-- A source that has not been asked too often. -/
structure SOk (s : Src) (k : Nat) : Prop where
  p : s.pos ≤ k
  r : 0 ≤ s.sd ∧ s.sd < 18446744073709551616
theorem SOk.mono {s : Src} {k k' : Nat} (h : SOk s k) (hk : k ≤ k') : SOk s k' := ⟨Nat.le_trans h.p hk, h.r⟩
end Go.Proofs.YtffmlijngfhhaaaGreatDoor

/-! The reference's draw of a machine. No condition. -/
namespace Go.Proofs.YtffmlijngfhhaaaGreatDoor
open Go
attribute [local irreducible] awp awpL awpQL awpQ awpM pWalk Qt AC thenQ blockQ loopQ OpTo
set_option linter.unusedVariables false
set_option linter.unusedSimpArgs false
set_option maxHeartbeats 2000000
attribute [local irreducible] HC

/-! ### What is drawn -/
end Go.Proofs.YtffmlijngfhhaaaGreatDoor
