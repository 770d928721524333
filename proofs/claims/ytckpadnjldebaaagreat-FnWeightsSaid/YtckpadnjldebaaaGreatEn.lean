/- What the functions of the program read of its variables: nothing. No condition. -/
import Derived.WalkKit
namespace Go.Proofs.YtckpadnjldebaaaGreat
open Go
set_option linter.unusedVariables false
def envBlk (P : Program) (b : Nat) : Prop := False
def EnvAt (P : Program) (w : World) : Prop := True
theorem envAt_any {P : Program} {w : World} : EnvAt P w := trivial
theorem envBlk_lt {P : Program} {w : World} (h : EnvAt P w) {b : Nat} (hb : envBlk P b) : b < w.heap.size := hb.elim
theorem envAt_keep {P : Program} {w w' : World} (h : EnvAt P w) (hk : ∀ b, envBlk P b -> w'.heap[b]? = w.heap[b]?) : EnvAt P w' := trivial
end Go.Proofs.YtckpadnjldebaaaGreat
