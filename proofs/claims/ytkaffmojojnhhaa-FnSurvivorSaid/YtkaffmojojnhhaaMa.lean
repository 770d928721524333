/- Contracts of how the laws' package marks what it was given, looks for its marks, and copies. No condition. -/
import Derived.Test.YtkaffmojojnhhaaWf
namespace Go.Proofs.Ytkaffmojojnhhaa
open Go
attribute [local irreducible] awp awpL awpQL awpQ awpM pWalk Qt AC thenQ blockQ loopQ OpTo
set_option linter.unusedVariables false
set_option linter.unusedSimpArgs false
set_option maxHeartbeats 2000000
attribute [local irreducible] HC

theorem likeIn_nil {h' : Heap} : likeIn [] h' := fun p hp => by cases hp
theorem likeIn_cons {h h' : Heap} {id : Nat} {c c' : Chunk} (hg : h'.get id = some c') (hl : c.like c') (hr : likeIn h h') : likeIn ((id, c) :: h) h' := fun p hp ha => by
  rcases List.mem_cons.1 hp with rfl | hp
  · exact ⟨c', hg, hl⟩
  · exact hr p hp ha

/-- Rows as the data of own rows. -/
def rws (nss : List (List Int)) : List (List D) := nss.map fun ns => ns.map (.int .i64)
theorem rws_length (nss : List (List Int)) : (rws nss).length = nss.length := by simp [rws]
theorem rws_lst (nss : List (List Int)) : (rws nss).map D.lst = nss.map ints := by
  unfold rws
  rw [List.map_map]
  rfl
theorem rws_dat (nss : List (List Int)) : D.lst ((rws nss).map D.lst) = rows nss := by rw [rws_lst]; rfl

end Go.Proofs.Ytkaffmojojnhhaa

/-! Contracts of how the laws' package looks for its marks, and of its copies as memory of one's own. No condition. -/
namespace Go.Proofs.Ytkaffmojojnhhaa
open Go
attribute [local irreducible] awp awpL awpQL awpQ awpM pWalk Qt AC thenQ blockQ loopQ OpTo
set_option linter.unusedVariables false
set_option linter.unusedSimpArgs false
set_option maxHeartbeats 2000000
attribute [local irreducible] HC

end Go.Proofs.Ytkaffmojojnhhaa
