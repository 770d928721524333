/- Contracts of how the laws' package marks what it was given, looks for its marks, and copies. No condition. -/
import Derived.Test.YtampglcgipefnaaGreatWf
namespace Go.Proofs.YtampglcgipefnaaGreat
open Go
attribute [local irreducible] awp awpL awpQL awpQ awpM pWalk Qt AC thenQ blockQ loopQ OpTo
set_option linter.unusedVariables false
set_option linter.unusedSimpArgs false
set_option maxHeartbeats 2000000
attribute [local irreducible] HC

theorem likeIn_nil {h' : Heap} : likeIn [] h' := fun p hp => by cases hp
theorem likeIn_cons {h h' : Heap} {id : Nat} {c c' : Chunk} (hg : h'.get id = some c') (hl : c.like c') (hr : likeIn h h') : likeIn ((id, c) :: h) h' := fun p hp ha => by
  rcases List.mem_cons.1 hp with rfl | hp
  · exact ⟨c', hg, hl⟩
  · exact hr p hp ha

/-- k, k + 1, .. -/
def mk1 : Int → Nat → List Int
  | _, 0 => []
  | k, n + 1 => k :: mk1 (k + 1) n
theorem mk1_length : ∀ (n : Nat) (k : Int), (mk1 k n).length = n
  | 0, _ => rfl
  | n + 1, k => by simp [mk1, mk1_length n]
theorem mk1_get : ∀ (n : Nat) (k : Int) (i : Nat), i < n → (mk1 k n)[i]? = some (k + i)
  | 0, _, i, h => by omega
  | n + 1, k, 0, h => by simp [mk1]
  | n + 1, k, i + 1, h => by
    simp only [mk1, List.getElem?_cons_succ]
    rw [mk1_get n (k + 1) i (by omega)]
    congr 1
    omega
theorem mk1_snoc (k : Int) (n : Nat) : mk1 k (n + 1) = mk1 k n ++ [k + n] := by
  apply List.ext_getElem?
  intro i
  by_cases h : i < n
  · rw [mk1_get _ _ _ (by omega), List.getElem?_append_left (by rw [mk1_length]; exact h), mk1_get _ _ _ h]
  · by_cases h2 : i = n
    · subst h2
      rw [mk1_get _ _ _ (by omega), List.getElem?_append_right (by rw [mk1_length]; omega), mk1_length]
      simp
    · rw [List.getElem?_eq_none (by rw [mk1_length]; omega), List.getElem?_eq_none (by simp [mk1_length]; omega)]

end Go.Proofs.YtampglcgipefnaaGreat

/-! Contracts of how the laws' package looks for its marks, and of its copies as memory of one's own. No condition. -/
namespace Go.Proofs.YtampglcgipefnaaGreat
open Go
attribute [local irreducible] awp awpL awpQL awpQ awpM pWalk Qt AC thenQ blockQ loopQ OpTo
set_option linter.unusedVariables false
set_option linter.unusedSimpArgs false
set_option maxHeartbeats 2000000
attribute [local irreducible] HC

end Go.Proofs.YtampglcgipefnaaGreat
