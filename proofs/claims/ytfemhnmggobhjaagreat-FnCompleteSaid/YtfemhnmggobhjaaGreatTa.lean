/- Which words of a suite kill which mutants: the table, in the program and in the reference. No condition. -/
import Derived.Test.YtfemhnmggobhjaaGreatNg
import Derived.Test.YtfemhnmggobhjaaGreatWa
namespace Go.Proofs.YtfemhnmggobhjaaGreat
open Go
attribute [local irreducible] awp awpL awpQL awpQ awpM pWalk Qt AC thenQ blockQ loopQ OpTo
set_option linter.unusedVariables false
set_option linter.unusedSimpArgs false
set_option maxHeartbeats 2000000
attribute [local irreducible] HC
def rowB (M : Nat) (F : Nat -> Bool) : List D := (List.range M).map fun k => D.bool (F k)
def tabB (N M : Nat) (F : Nat -> Nat -> Bool) : List (List D) := (List.range N).map fun i => rowB M (F i)
@[simp] theorem rowB_length {M : Nat} {F : Nat -> Bool} : (rowB M F).length = M := by simp [rowB]
@[simp] theorem tabB_length {N M : Nat} {F : Nat -> Nat -> Bool} : (tabB N M F).length = N := by simp [tabB]
theorem rowB_get {M k : Nat} {F : Nat -> Bool} (h : k < M) : (rowB M F)[(k : Int).toNat]? = some (.bool (F k)) := by simp [rowB, h]
theorem SuOk.one {n i : Nat} {ws : List (List Int)} (h : SuOk n ws) (hi : i < ws.length) : SuOk n [ws[i]] := ⟨by simp, fun w hw => by
  simp only [List.mem_singleton] at hw
  subst hw
  exact h.all _ (List.getElem_mem hi)⟩
end Go.Proofs.YtfemhnmggobhjaaGreat
namespace Go.Proofs.YtfemhnmggobhjaaGreat
open Go
attribute [local irreducible] awp awpL awpQL awpQ awpM pWalk Qt AC thenQ blockQ loopQ OpTo
set_option linter.unusedVariables false
set_option linter.unusedSimpArgs false
set_option maxHeartbeats 2000000
end Go.Proofs.YtfemhnmggobhjaaGreat
namespace Go.Proofs.YtfemhnmggobhjaaGreat
open Go
attribute [local irreducible] awp awpL awpQL awpQ awpM pWalk Qt AC thenQ blockQ loopQ OpTo
set_option linter.unusedVariables false
set_option linter.unusedSimpArgs false
set_option maxHeartbeats 2000000
attribute [local irreducible] HC
open Go.RowKit (Below)
end Go.Proofs.YtfemhnmggobhjaaGreat
