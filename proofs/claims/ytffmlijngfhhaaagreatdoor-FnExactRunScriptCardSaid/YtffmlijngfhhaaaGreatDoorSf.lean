/- The law of Believed. No condition. -/
import Derived.Test.YtffmlijngfhhaaaGreatDoorSb
import Derived.Test.YtffmlijngfhhaaaGreatDoorMa
import Derived.Test.YtffmlijngfhhaaaGreatDoorFwP
namespace Go.Proofs.YtffmlijngfhhaaaGreatDoor
open Go
attribute [local irreducible] awp awpL awpQL awpQ awpM pWalk Qt AC thenQ blockQ loopQ OpTo
set_option linter.unusedVariables false
set_option linter.unusedSimpArgs false
set_option maxHeartbeats 2000000
attribute [local irreducible] HC

theorem incr_len {l : List Int} (h : l.Pairwise (· < ·)) : ∀ lo : Int, (∀ q ∈ l, lo ≤ q ∧ q ≤ 9) → (l.length : Int) ≤ max 0 (10 - lo) := by
  induction l with
  | nil => intro lo _; simp; omega
  | cons x l ih =>
    intro lo hl
    have hp' := List.pairwise_cons.1 h
    have hx := hl x (List.mem_cons_self ..)
    have := ih hp'.2 (x + 1) (fun q hq => ⟨by have := hp'.1 q hq; omega, (hl q (List.mem_cons_of_mem _ hq)).2⟩)
    simp only [List.length_cons]
    omega

end Go.Proofs.YtffmlijngfhhaaaGreatDoor
