/- The program's mutant, and what it looks at first. No condition. -/
import Derived.Test.YtfemhnmggobhjaaNd
import Derived.Test.YtfemhnmggobhjaaNc
namespace Go.Proofs.Ytfemhnmggobhjaa
open Go
attribute [local irreducible] awp awpL awpQL awpQ awpM pWalk Qt AC thenQ blockQ loopQ OpTo
set_option linter.unusedVariables false
set_option linter.unusedSimpArgs false
set_option maxHeartbeats 2000000
attribute [local irreducible] HC

end Go.Proofs.Ytfemhnmggobhjaa

/-! MutantAt, in the reference and in the program, and its law. No condition. -/
namespace Go.Proofs.Ytfemhnmggobhjaa
open Go
attribute [local irreducible] awp awpL awpQL awpQ awpM pWalk Qt AC thenQ blockQ loopQ OpTo
set_option linter.unusedVariables false
set_option linter.unusedSimpArgs false
set_option maxHeartbeats 2000000
attribute [local irreducible] HC

theorem tot_boundN {nss : List (List Int)} {m : Nat} (h : ∀ ns ∈ nss, ns.length ≤ m) : tot nss ≤ nss.length * m := by
  induction nss with
  | nil => simp [tot]
  | cons x l ih =>
    have h1 := h x (List.mem_cons_self ..)
    have h2 := ih fun ns hn => h ns (List.mem_cons_of_mem _ hn)
    simp only [tot, List.length_cons, Nat.add_mul]
    omega

end Go.Proofs.Ytfemhnmggobhjaa
