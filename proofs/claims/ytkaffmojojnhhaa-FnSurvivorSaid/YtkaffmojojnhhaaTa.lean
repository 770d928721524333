/- Which words of a suite kill which mutants: the table, in the program and in the reference. No condition. -/
import Derived.Test.YtkaffmojojnhhaaNg
import Derived.Test.YtkaffmojojnhhaaWf
namespace Go.Proofs.Ytkaffmojojnhhaa
open Go
attribute [local irreducible] awp awpL awpQL awpQ awpM pWalk Qt AC thenQ blockQ loopQ OpTo
set_option linter.unusedVariables false
set_option linter.unusedSimpArgs false
set_option maxHeartbeats 2000000
attribute [local irreducible] HC

/-! ### Tables of truth values -/

def rowB (M : Nat) (F : Nat → Bool) : List D := (List.range M).map fun k => D.bool (F k)
def tabB (N M : Nat) (F : Nat → Nat → Bool) : List (List D) := (List.range N).map fun i => rowB M (F i)


@[simp] theorem rowB_length {M : Nat} {F : Nat → Bool} : (rowB M F).length = M := by simp [rowB]
@[simp] theorem tabB_length {N M : Nat} {F : Nat → Nat → Bool} : (tabB N M F).length = N := by simp [tabB]
theorem rowB_get {M k : Nat} {F : Nat → Bool} (h : k < M) : (rowB M F)[(k : Int).toNat]? = some (.bool (F k)) := by simp [rowB, h]
theorem SuOk.one {n i : Nat} {ws : List (List Int)} (h : SuOk n ws) (hi : i < ws.length) : SuOk n [ws[i]] := ⟨by simp, fun w hw => by
  simp only [List.mem_singleton] at hw
  subst hw
  exact h.all _ (List.getElem_mem hi)⟩
end Go.Proofs.Ytkaffmojojnhhaa

/-! Rows given by their places. No condition. -/
namespace Go.Proofs.Ytkaffmojojnhhaa
open Go
attribute [local irreducible] awp awpL awpQL awpQ awpM pWalk Qt AC thenQ blockQ loopQ OpTo
set_option linter.unusedVariables false
set_option linter.unusedSimpArgs false
set_option maxHeartbeats 2000000

/-! ### A row by its places -/

def fnL (N : Nat) (F : Nat → Int) : List Int := (List.range N).map F

@[simp] theorem fnL_length {N : Nat} {F : Nat → Int} : (fnL N F).length = N := by simp [fnL]
theorem fnL_get {N k : Nat} {F : Nat → Int} (h : k < N) : (fnL N F)[k]? = some (F k) := by simp [fnL, h]
theorem fnL_set {N k : Nat} {F : Nat → Int} {v : Int} : ((fnL N F).map (D.int .i64)).set k (.int .i64 v) = (fnL N fun g => if g = k then v else F g).map (D.int .i64) := by
  apply List.ext_getElem?
  intro i
  rw [List.getElem?_set]
  by_cases hi : k = i
  · subst hi
    by_cases hk : k < N <;> simp [fnL, hk]
  · have : ¬ i = k := fun e => hi e.symm
    simp only [fnL, hi, if_false, List.getElem?_map]
    by_cases hk : i < N
    · simp [hk, this]
    · simp [hk]
theorem fnL_congr {N : Nat} {F G : Nat → Int} (h : ∀ g, g < N → F g = G g) : fnL N F = fnL N G := List.map_congr_left fun g hg => h g (List.mem_range.1 hg)

end Go.Proofs.Ytkaffmojojnhhaa
