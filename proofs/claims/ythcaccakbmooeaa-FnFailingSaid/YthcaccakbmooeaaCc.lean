/- The search for a word that tells two machines apart, in the reference. No condition. -/
import Derived.Test.YthcaccakbmooeaaCb
import Derived.Test.YthcaccakbmooeaaNh
namespace Go.Proofs.Ythcaccakbmooeaa
open Go
attribute [local irreducible] awp awpL awpQL awpQ awpM pWalk Qt AC thenQ blockQ loopQ OpTo
set_option linter.unusedVariables false
set_option linter.unusedSimpArgs false
set_option maxHeartbeats 2000000
attribute [local irreducible] HC

def prL (L : PL) : List (List Int) := L.map fun p => [((p.1 / 16 : Nat) : Int), ((p.1 % 16 : Nat) : Int)]
def wdL (L : PL) : List (List Int) := L.map fun p => p.2
@[simp] theorem prL_length (L : PL) : (prL L).length = L.length := by simp [prL]
@[simp] theorem wdL_length (L : PL) : (wdL L).length = L.length := by simp [wdL]
theorem mem_prL {c : Nat} {L : PL} : [((c / 16 : Nat) : Int), ((c % 16 : Nat) : Int)] ∈ prL L ↔ c ∈ L.map (·.1) := by
  unfold prL
  constructor
  · intro h
    obtain ⟨p, hp, e⟩ := List.mem_map.1 h
    simp only [List.cons.injEq, and_true] at e
    exact List.mem_map.2 ⟨p, hp, by omega⟩
  · intro h
    obtain ⟨p, hp, e⟩ := List.mem_map.1 h
    exact List.mem_map.2 ⟨p, hp, by subst e; rfl⟩

end Go.Proofs.Ythcaccakbmooeaa
