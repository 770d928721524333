/- LampClasses, in the reference and in the program, and its law. No condition. -/
import Derived.Test.YtampglcgipefnaaGreatSf
import Derived.Test.YtampglcgipefnaaGreatMa
namespace Go.Proofs.YtampglcgipefnaaGreat
open Go
attribute [local irreducible] awp awpL awpQL awpQ awpM pWalk Qt AC thenQ blockQ loopQ OpTo
set_option linter.unusedVariables false
set_option linter.unusedSimpArgs false
set_option maxHeartbeats 2000000
attribute [local irreducible] HC

theorem spec_l01All {s : Int} (hs : 0 ≤ s ∧ s ≤ 100) : AC Tryz.prog 115 [.int .i64 s] (ints (mk1 0 s.toNat)) := by
  refine ac_intro tabIs _ Tryz.func115 rfl rfl Tryz.ntmps115 rfl rfl fun w0 ok0 => ?_
  repeat (first | refine v_w (t := 5) ?_ | refine zc ?_ | refine u_w (t := 5) ?_ | refine zv ?_)
  refine awp_loop (fun k : Nat => (k : Int) ≤ s) (fun k => [(0, .d (.int .i64 s)), (3, .own 5), (4, .d (.int .i64 k))]) (fun k => [(5, .arr 2 1 ((mk1 0 k).map (.int .i64)))]) (fun k => s.toNat - k) 0 (by omega) ?_ rfl ?_
  · exact zs
  · intro k hk
    have hm := mk1_length k 0
    by_cases hlt : (k : Int) < s
    · repeat (first | refine zc ?_ | refine zv ?_)
      refine loop_n (k + 1) (by omega) ?_ ?_ (by omega)
      · exact zs
      · rw [mk1_snoc]; simp [killH, keepH, memB]
    · have : k = s.toNat := by omega
      subst this
      repeat (first | refine zc ?_ | refine zv ?_)
      (refine awp_ret ?_; (repeat (first | refine then_r ?_ | refine block_r ?_ | refine loop_r ?_)); apply ret_ok (.inr rfl); (focus exact rfl))
      rfl

end Go.Proofs.YtampglcgipefnaaGreat
