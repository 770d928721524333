/- The reference's draw of a machine that is like another one. No condition. -/
import Derived.Test.YtkaffmojojnhhaaPe
import Derived.Test.YtkaffmojojnhhaaCa
import Derived.Test.YtkaffmojojnhhaaFwY
namespace Go.Proofs.Ytkaffmojojnhhaa
open Go
attribute [local irreducible] awp awpL awpQL awpQ awpM pWalk Qt AC thenQ blockQ loopQ OpTo
set_option linter.unusedVariables false
set_option linter.unusedSimpArgs false
set_option maxHeartbeats 2000000
attribute [local irreducible] HC

section
variable {code : List Int} {S O s : Int} {r ro : List Int} {nx ou : List (List Int)} {u : Src}
end
/-! ### The walk -/
end Go.Proofs.Ytkaffmojojnhhaa

/-! The law of Failing. No condition. -/
namespace Go.Proofs.Ytkaffmojojnhhaa
open Go
attribute [local irreducible] awp awpL awpQL awpQ awpM pWalk Qt AC thenQ blockQ loopQ OpTo
set_option linter.unusedVariables false
set_option linter.unusedSimpArgs false
set_option maxHeartbeats 2000000
attribute [local irreducible] HC

section
variable {s o s' o' : Int} {nx ou nx' ou' : List (List Int)}
end

/-! ### Where a machine fails -/
theorem failS_hit (nx ou nx' ou' : List (List Int)) : ∀ (ws : List (List Int)) (k : Nat), ¬ (failS nx ou nx' ou' k ws).1 < 0 → ∃ (i : Nat) (h : i < ws.length), failS nx ou nx' ou' k ws = ((k : Int) + i, failW nx ou nx' ou' 0 0 0 ws[i]) ∧ ¬ failW nx ou nx' ou' 0 0 0 ws[i] < 0 ∧ (failS nx ou nx' ou' k (ws.take i)).1 < 0
  | [], k, h => by simp [failS] at h
  | w :: ws, k, h => by
    by_cases hc : failW nx ou nx' ou' 0 0 0 w < 0
    · have hs : failS nx ou nx' ou' k (w :: ws) = failS nx ou nx' ou' (k + 1) ws := by simp only [failS, if_pos hc]
      rw [hs] at h ⊢
      obtain ⟨i, hi, h1, h2, h3⟩ := failS_hit nx ou nx' ou' ws (k + 1) h
      refine ⟨i + 1, by simp; omega, ?_, ?_, ?_⟩
      · rw [h1]; simp; omega
      · simpa using h2
      · simp only [List.take_succ_cons, failS, if_pos hc]; exact h3
    · refine ⟨0, by simp, ?_, hc, by simp [failS]⟩
      simp only [failS, if_neg hc]
      simp

end Go.Proofs.Ytkaffmojojnhhaa
