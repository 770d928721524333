/- Rows given by their places. No condition. -/
import Derived.Test.YtkaffmojojnhhaaWf
namespace Go.Proofs.Ytkaffmojojnhhaa
open Go
attribute [local irreducible] awp awpL awpQL awpQ awpM pWalk Qt AC thenQ blockQ loopQ OpTo
set_option linter.unusedVariables false
set_option linter.unusedSimpArgs false
set_option maxHeartbeats 2000000

/-! ### A row by its places -/

def fnL (N : Nat) (F : Nat → Int) : List Int := (List.range N).map F
@[simp] theorem fnL_length {N : Nat} {F : Nat → Int} : (fnL N F).length = N := by simp [fnL]
theorem fnL_get {N k : Nat} {F : Nat → Int} (h : k < N) : (fnL N F)[k]? = some (F k) := by simp [fnL, h]
theorem fnL_el {N k : Nat} {F : Nat → Int} (h : k < N) : ((fnL N F).map (D.int .i64))[(k : Int).toNat]? = some (.int .i64 (F k)) := by simp [fnL, h]
theorem fnL_set {N k : Nat} {F : Nat → Int} {v : Int} : ((fnL N F).map (D.int .i64)).set k (.int .i64 v) = (fnL N fun g => if g = k then v else F g).map (D.int .i64) := by
  apply List.ext_getElem?
  intro i
  rw [List.getElem?_set]
  by_cases hi : k = i
  · subst hi
    by_cases hk : k < N <;> simp [fnL, hk]
  · have : ¬ i = k := fun e => hi e.symm
    simp only [fnL, hi, if_false, List.getElem?_map]
    by_cases hk : i < N
    · simp [hk, this]
    · simp [hk]
theorem fnL_congr {N : Nat} {F G : Nat → Int} (h : ∀ g, g < N → F g = G g) : fnL N F = fnL N G := List.map_congr_left fun g hg => h g (List.mem_range.1 hg)

end Go.Proofs.Ytkaffmojojnhhaa
