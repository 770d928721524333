/- LampClasses, in the reference and in the program, and its law. No condition. -/
import Derived.Test.YtkomkhigcdkpdaaSf
import Derived.Test.YtkomkhigcdkpdaaMc
namespace Go.Proofs.Ytkomkhigcdkpdaa
open Go
attribute [local irreducible] awp awpL awpQL awpQ awpM pWalk Qt AC thenQ blockQ loopQ OpTo
set_option linter.unusedVariables false
set_option linter.unusedSimpArgs false
set_option maxHeartbeats 2000000
attribute [local irreducible] HC

/-- The states of each lamp, where there are any. -/
def clsL (lp L : List Int) : Nat → List (List Int)
  | 0 => []
  | k + 1 => clsL lp L k ++ if (L.filter fun q => decide (lamp lp q = k)) = [] then [] else [L.filter fun q => decide (lamp lp q = k)]
theorem clsL_len (lp L : List Int) : ∀ k, (clsL lp L k).length ≤ k
  | 0 => Nat.le_refl _
  | k + 1 => by
    have := clsL_len lp L k
    unfold clsL
    rw [List.length_append]
    split <;> simp <;> omega
theorem clsL_mem (lp L : List Int) : ∀ k, ∀ l ∈ clsL lp L k, l.length ≤ L.length
  | 0, _, h => by cases h
  | k + 1, l, h => by
    unfold clsL at h
    rcases List.mem_append.1 h with h | h
    · exact clsL_mem lp L k l h
    · split at h
      · cases h
      · simp only [List.mem_singleton] at h
        subst h
        exact List.length_filter_le ..

theorem clsL_el (lp L : List Int) : ∀ k, ∀ l ∈ clsL lp L k, ∀ q ∈ l, q ∈ L
  | 0, _, h => by cases h
  | k + 1, l, h => by
    unfold clsL at h
    rcases List.mem_append.1 h with h | h
    · exact clsL_el lp L k l h
    · split at h
      · cases h
      · simp only [List.mem_singleton] at h
        subst h
        exact fun q hq => (List.mem_filter.1 hq).1

/-- What LampClasses answers. -/
def lcD (s : Int) (nx : List (List Int)) (lp : List Int) : List (List Int) × Int := if litOk s nx lp then (clsL lp (mk1 0 s.toNat) 4, 0) else ([], 1)

end Go.Proofs.Ytkomkhigcdkpdaa
