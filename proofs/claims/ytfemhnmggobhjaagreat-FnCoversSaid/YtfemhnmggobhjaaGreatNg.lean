/- KilledBy, in the reference and in the program, and its law. No condition. -/
import Derived.Test.YtfemhnmggobhjaaGreatNd
import Derived.Test.YtfemhnmggobhjaaGreatPb
namespace Go.Proofs.YtfemhnmggobhjaaGreat
open Go
attribute [local irreducible] awp awpL awpQL awpQ awpM pWalk Qt AC thenQ blockQ loopQ OpTo
set_option linter.unusedVariables false
set_option linter.unusedSimpArgs false
set_option maxHeartbeats 2000000
attribute [local irreducible] HC
structure SuOk (n : Nat) (ws : List (List Int)) : Prop where
  len : ws.length ≤ 400
  all : ∀ w ∈ ws, w.length ≤ 400 ∧ ∀ l ∈ w, 0 ≤ l ∧ l < n
theorem spec_l07Given {s o : Int} {nx ou ws : List (List Int)} (h1 : RowsOk nx) (h2 : RowsOk ou) (h3 : RowsOk ws) : AC Tryz.prog 69 [.ptr (mach s o nx ou), rows ws] (.int .i64 (if machOk s o nx ou then (if suiteOk nx.length ws then 0 else 2) else 1)) := by
  have e1 := spec_l06Ok (s := s) (o := o) h1 h2
  have e2 := spec_l07Suite (s := s) (o := o) (nx := nx) (ou := ou) (ws := ws) h1.2 h3
  generalize machOk s o nx ou = b1 at *
  generalize suiteOk nx.length ws = b2 at *
  cases b1 <;> cases b2 <;>
  . refine ac_intro tabIs _ Tryz.func69 rfl rfl Tryz.ntmps69 rfl rfl fun w0 ok0 => ?_
    repeat (first | refine zc ?_ | refine zk (e := by exact e1) (n := ?_) | refine zk (e := by exact e2) (n := ?_) | refine zv ?_)
    refine zt ?_
    rfl
end Go.Proofs.YtfemhnmggobhjaaGreat
