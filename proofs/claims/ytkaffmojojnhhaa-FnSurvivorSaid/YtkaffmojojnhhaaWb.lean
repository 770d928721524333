/- Contracts of what the laws' package does with its arguments: sizes, copies, comparisons of lists of numbers and of lists of such lists. No condition. -/
import Derived.Test.YtkaffmojojnhhaaTab
import Derived.Test.YtkaffmojojnhhaaFwL
import Derived.Test.YtkaffmojojnhhaaFwT
namespace Go.Proofs.Ytkaffmojojnhhaa
open Go
attribute [local irreducible] awp awpL awpQL awpQ awpM pWalk Qt AC thenQ blockQ loopQ OpTo
set_option linter.unusedVariables false
set_option linter.unusedSimpArgs false
set_option maxHeartbeats 2000000

theorem el_int {ns : List Int} {k : Nat} (h : k < ns.length) : (ns.map (D.int .i64))[(k : Int).toNat]? = some (.int .i64 ns[k]) := by simp [h]
theorem el_row {nss : List (List Int)} {k : Nat} (h : k < nss.length) : (nss.map ints)[(k : Int).toNat]? = some (ints nss[k]) := by simp [h]

theorem eq_step {α : Type} [DecidableEq α] {a b : List α} {k : Nat} (ha : k < a.length) (hb : k < b.length) (ht : a.take k = b.take k) : a[k] = b[k] → a.take (k + 1) = b.take (k + 1) := fun h => by
  rw [List.take_succ_eq_append_getElem ha, List.take_succ_eq_append_getElem hb, ht, h]

end Go.Proofs.Ytkaffmojojnhhaa
