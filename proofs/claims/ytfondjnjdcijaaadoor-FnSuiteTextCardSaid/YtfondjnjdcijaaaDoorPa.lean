/- Plain facts of valid machines and of the outputs of two machines for a word. No condition. -/
import Derived.Test.YtfondjnjdcijaaaDoorWa
namespace Go.Proofs.YtfondjnjdcijaaaDoor
open Go
attribute [local irreducible] awp awpL awpQL awpQ awpM pWalk Qt AC thenQ blockQ loopQ OpTo
set_option linter.unusedVariables false
set_option linter.unusedSimpArgs false
set_option maxHeartbeats 2000000

def row (xs : List (List Int)) (l : Int) : List Int := xs.getD l.toNat []

theorem el_int2 {ns : List Int} {q : Int} (h : 0 ≤ q ∧ q < ns.length) : (ns.map (D.int .i64))[q.toNat]? = some (.int .i64 (ns.getD q.toNat 0)) := by
  have : q.toNat < ns.length := by omega
  simp [List.getD_eq_getElem?_getD, this]
/-- Rows of s numbers below hi. -/
def Tbl (s hi : Int) (xs : List (List Int)) : Prop := ∀ ns ∈ xs, (ns.length : Int) = s ∧ ∀ n ∈ ns, 0 ≤ n ∧ n < hi
/-- A valid machine. -/
structure MV (s o : Int) (nx ou : List (List Int)) : Prop where
  s1 : 1 ≤ s ∧ s ≤ 10
  o1 : 1 ≤ o ∧ o ≤ 3
  n1 : 1 ≤ nx.length ∧ nx.length ≤ 3
  eq : ou.length = nx.length
  nx : Tbl s s nx
  ou : Tbl s o ou
end Go.Proofs.YtfondjnjdcijaaaDoor
