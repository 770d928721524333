/- Plain facts of a machine's mutants. No condition. -/
import Derived.Test.YtampglcgipefnaaGreatMa
import Derived.Test.YtampglcgipefnaaGreatPa
import Derived.Test.YtampglcgipefnaaGreatFwS
namespace Go.Proofs.YtampglcgipefnaaGreat
open Go
attribute [local irreducible] awp awpL awpQL awpQ awpM pWalk Qt AC thenQ blockQ loopQ OpTo
set_option linter.unusedVariables false
set_option linter.unusedSimpArgs false
set_option maxHeartbeats 2000000
attribute [local irreducible] HC

end Go.Proofs.YtampglcgipefnaaGreat

/-! Contracts: copies of rows, and the reference's mutant. No condition. -/
namespace Go.Proofs.YtampglcgipefnaaGreat
open Go
attribute [local irreducible] awp awpL awpQL awpQ awpM pWalk Qt AC thenQ blockQ loopQ OpTo
set_option linter.unusedVariables false
set_option linter.unusedSimpArgs false
set_option maxHeartbeats 2000000
attribute [local irreducible] HC

theorem elsOk_ints : ∀ ns : List Int, elsOk 1 (ns.map (D.int .i64)) = true
  | [] => rfl
  | n :: ns => by simp [elsOk, D.el, D.one, D.width, elsOk_ints ns]

theorem spec_l00OwnH {ns : List Int} (hn : ns.length ≤ 1048576) : HC Tryz.prog 99 [.d (ints ns)] [] (.own 30000) [(30000, .arr 2 1 (ns.map (.int .i64)))] := by
  have hl : (List.map (D.int IntKind.i64) ns).length = ns.length := by simp
  refine hc_intro tabIs _ Tryz.func99 rfl rfl Tryz.ntmps99 rfl rfl rfl ?_ fun w0 ok0 XM XA anc => ?_
  · exact likeIn_nil
  repeat (first | refine v_w (t := 3) ?_ | refine zc ?_ | refine u_w (t := 3) ?_ | refine zv ?_)
  (apply lto; (focus (apply wo_append; (iterate 14 exact rfl); exact elsOk_ints ns; (simp; omega))))
  repeat (first | refine zc ?_ | refine zv ?_)
  (refine awp_ret ?_; (repeat (first | refine then_r ?_ | refine block_r ?_ | refine loop_r ?_)); refine u_rH [(3, 30000)] ?_ ?_)
  · rfl
  · rfl

end Go.Proofs.YtampglcgipefnaaGreat
