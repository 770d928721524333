/- The program's machine whose states are picked, for all states. No condition. -/
import Derived.Test.YtfemhnmggobhjaaGreatNa
namespace Go.Proofs.YtfemhnmggobhjaaGreat
open Go
attribute [local irreducible] awp awpL awpQL awpQ awpM pWalk Qt AC thenQ blockQ loopQ OpTo
set_option linter.unusedVariables false
set_option linter.unusedSimpArgs false
set_option maxHeartbeats 2000000
attribute [local irreducible] HC
theorem ints_take {ns : List Int} {k : Nat} (hk : k < ns.length) : (ns.take k).map (D.int .i64) ++ [.int .i64 ns[k]] = (ns.take (k + 1)).map (D.int .i64) := by
  rw [List.take_succ_eq_append_getElem hk, List.map_append]
  rfl
end Go.Proofs.YtfemhnmggobhjaaGreat
namespace Go.Proofs.YtfemhnmggobhjaaGreat
open Go
attribute [local irreducible] awp awpL awpQL awpQ awpM pWalk Qt AC thenQ blockQ loopQ OpTo
set_option linter.unusedVariables false
set_option linter.unusedSimpArgs false
set_option maxHeartbeats 2000000
attribute [local irreducible] HC
end Go.Proofs.YtfemhnmggobhjaaGreat
namespace Go.Proofs.YtfemhnmggobhjaaGreat
open Go
attribute [local irreducible] awp awpL awpQL awpQ awpM pWalk Qt AC thenQ blockQ loopQ OpTo
set_option linter.unusedVariables false
set_option linter.unusedSimpArgs false
set_option maxHeartbeats 2000000
attribute [local irreducible] HC
end Go.Proofs.YtfemhnmggobhjaaGreat
namespace Go.Proofs.YtfemhnmggobhjaaGreat
open Go
attribute [local irreducible] awp awpL awpQL awpQ awpM pWalk Qt AC thenQ blockQ loopQ OpTo
set_option linter.unusedVariables false
set_option linter.unusedSimpArgs false
set_option maxHeartbeats 2000000
attribute [local irreducible] HC
theorem impl_code {s o : Int} {nx ou : List (List Int)} {g : Nat} {cap : List D} {b : Bool} (h1 : RowsOk nx) (h2 : RowsOk ou) (hg : machOk s o nx ou = true → AC Tryz.prog g cap (.bool b)) :
    AC Tryz.prog 49 [mach s o nx ou, .fn g cap] (.int .i64 (if machOk s o nx ou then (if b then 0 else 2) else 1)) := by
  have e1 := impl_ValidMachine (s := s) (o := o) h1 h2
  by_cases hv : machOk s o nx ou = true
  . have e2 := hg hv
    rw [hv] at e1 ⊢
    cases b with
    | true =>
      refine ac_intro tabIs _ Tryz.func49 rfl rfl Tryz.ntmps49 rfl rfl fun w0 ok0 => ?_
      repeat (first | refine zc ?_ | refine zk (e := by exact e1) (n := ?_) | refine zk (e := by exact e2) (n := ?_) | refine zv ?_)
      refine zt ?_
      rfl
    | false =>
      refine ac_intro tabIs _ Tryz.func49 rfl rfl Tryz.ntmps49 rfl rfl fun w0 ok0 => ?_
      repeat (first | refine zc ?_ | refine zk (e := by exact e1) (n := ?_) | refine zk (e := by exact e2) (n := ?_) | refine zv ?_)
      refine zt ?_
      rfl
  . have hv' : machOk s o nx ou = false := by simpa using hv
    rw [hv'] at e1 ⊢
    refine ac_intro tabIs _ Tryz.func49 rfl rfl Tryz.ntmps49 rfl rfl fun w0 ok0 => ?_
    repeat (first | refine zc ?_ | refine zk (e := by exact e1) (n := ?_) | refine zv ?_)
    refine zt ?_
    rfl
end Go.Proofs.YtfemhnmggobhjaaGreat
