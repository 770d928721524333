/- Contracts of FirstFailing and Passes, in the program and in the reference. No condition. -/
import Derived.Test.YtkaffmojojnhhaaPc
import Derived.Test.YtkaffmojojnhhaaKf
import Derived.Test.YtkaffmojojnhhaaNh
namespace Go.Proofs.Ytkaffmojojnhhaa
open Go
attribute [local irreducible] awp awpL awpQL awpQ awpM pWalk Qt AC thenQ blockQ loopQ OpTo
set_option linter.unusedVariables false
set_option linter.unusedSimpArgs false
set_option maxHeartbeats 2000000

end Go.Proofs.Ytkaffmojojnhhaa

/-! Contracts of Passes; the laws of FirstFailing and of Passes. No condition. -/
namespace Go.Proofs.Ytkaffmojojnhhaa
open Go
attribute [local irreducible] awp awpL awpQL awpQ awpM pWalk Qt AC thenQ blockQ loopQ OpTo
set_option linter.unusedVariables false
set_option linter.unusedSimpArgs false
set_option maxHeartbeats 2000000

end Go.Proofs.Ytkaffmojojnhhaa

/-! What is asked of a valid machine and a valid suite. No condition. -/
namespace Go.Proofs.Ytkaffmojojnhhaa
open Go
attribute [local irreducible] awp awpL awpQL awpQ awpM pWalk Qt AC thenQ blockQ loopQ OpTo
set_option linter.unusedVariables false
set_option linter.unusedSimpArgs false
set_option maxHeartbeats 2000000
attribute [local irreducible] HC

theorem SuOk.rows {n : Nat} {ws : List (List Int)} (h : SuOk n ws) (hn : n ≤ 1000) : RowsOk ws :=
  ⟨fun w hw => ⟨fun l hl => by have := (h.all w hw).2 l hl; exact ⟨by omega, by omega⟩, by have := (h.all w hw).1; omega⟩, by have := h.len; omega⟩


section
variable {s o k : Int} {nx ou ws os : List (List Int)}
theorem mutD_v (m : MV s o nx ou) : mutD s o nx ou = (mutN s o nx.length, 0) := if_pos (machOk_mv m)
theorem impl_MutantCountV (m : MV s o nx ou) : AC Try.prog 23 [mach s o nx ou] (.tup [.int .i64 (mutN s o nx.length), .int .i64 0]) := by
  have := impl_MutantCount (s := s) (o := o) m.rnx m.rou
  rwa [mutD_v m] at this
end

theorem failW_same (nx ou nx' ou' : List (List Int)) : ∀ (w : List Int) (s t : Int) (k : Nat), failW nx ou nx' ou' s t k w < 0 ↔ runO nx ou s w = runO nx' ou' t w
  | [], s, t, k => by simp [failW, runO]
  | l :: w, s, t, k => by
    simp only [failW, runO, List.cons.injEq]
    split
    · rename_i h
      rw [failW_same nx ou nx' ou' w _ _ (k + 1)]
      simp [h]
    · rename_i h
      simp [h]
end Go.Proofs.Ytkaffmojojnhhaa
