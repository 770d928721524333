/- Deeds in the laws' package, and RefusedDeed in the program. No condition. -/
import Derived.Test.YtffmlijngfhhaaaGreatDoorOb
import Derived.Test.YtffmlijngfhhaaaGreatDoorOf
namespace Go.Proofs.YtffmlijngfhhaaaGreatDoor
open Go
attribute [local irreducible] awp awpL awpQL awpQ awpM pWalk Qt AC thenQ blockQ loopQ OpTo
set_option linter.unusedVariables false
set_option linter.unusedSimpArgs false
set_option maxHeartbeats 2000000
attribute [local irreducible] HC

/-! ### The laws' package -/
theorem szLit_le {nx : List (List Int)} {lp : List Int} (h : ¬ szLitF nx lp 1048576 < 0) : 0 ≤ szLitF nx lp 1048576 ∧ szLitF nx lp 1048576 ≤ 1048576 := by
  refine ⟨by omega, ?_⟩
  have hok := szA_ok (nx := nx) (left := 1048576) (by omega)
  unfold szLitF
  split
  · omega
  · split
    · omega
    · have := (szL_le (n := lp.length) (left := szA nx 1048576) (by omega)).1
      omega

end Go.Proofs.YtffmlijngfhhaaaGreatDoor
