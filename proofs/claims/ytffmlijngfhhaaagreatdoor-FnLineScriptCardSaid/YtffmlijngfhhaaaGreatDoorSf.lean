/- The law of Believed. No condition. -/
import Derived.Test.YtffmlijngfhhaaaGreatDoorSb
import Derived.Test.YtffmlijngfhhaaaGreatDoorMa
import Derived.Test.YtffmlijngfhhaaaGreatDoorFwP
namespace Go.Proofs.YtffmlijngfhhaaaGreatDoor
open Go
attribute [local irreducible] awp awpL awpQL awpQ awpM pWalk Qt AC thenQ blockQ loopQ OpTo
set_option linter.unusedVariables false
set_option linter.unusedSimpArgs false
set_option maxHeartbeats 2000000
attribute [local irreducible] HC
theorem incr_len {l : List Int} (h : l.Pairwise (· < ·)) : ∀ lo : Int, (∀ q ∈ l, lo <= q /\ q <= 9) -> (l.length : Int) <= max 0 (10 - lo) := by
  induction l with
  | nil => intro lo _; simp; omega
  | cons x l ih =>
    intro lo hl
    have hp' := List.pairwise_cons.1 h
    have hx := hl x (List.mem_cons_self ..)
    have := ih hp'.2 (x + 1) (fun q hq => ⟨by have := hp'.1 q hq; omega, (hl q (List.mem_cons_of_mem _ hq)).2⟩)
    simp only [List.length_cons]
    omega
end Go.Proofs.YtffmlijngfhhaaaGreatDoor
namespace Go.Proofs.YtffmlijngfhhaaaGreatDoor
open Go
attribute [local irreducible] awp awpL awpQL awpQ awpM pWalk Qt AC thenQ blockQ loopQ OpTo
set_option linter.unusedVariables false
set_option linter.unusedSimpArgs false
set_option maxHeartbeats 2000000
attribute [local irreducible] HC
theorem spec_l01All {s : Int} (hs : 0 <= s /\ s <= 100) : AC Tryz.prog 136 [.int .i64 s] (ints (mk1 0 s.toNat)) := by
  refine ac_intro tabIs _ Tryz.func136 rfl rfl Tryz.ntmps136 rfl rfl fun w0 ok0 he0 => ?_
  repeat (first | refine v_w (t := 5) ?_ | refine zc ?_ | refine u_w (t := 5) ?_ | refine zv ?_)
  refine awp_loop (fun k : Nat => (k : Int) <= s) (fun k => [(0, .d (.int .i64 s)), (3, .own 5), (4, .d (.int .i64 k))]) (fun k => [(5, .arr 2 1 ((mk1 0 k).map (.int .i64)))]) (fun k => s.toNat - k) 0 (by omega) ?_ rfl ?_
  . exact zs
  . intro k hk
    have hm := mk1_length k 0
    by_cases hlt : (k : Int) < s
    . repeat (first | refine zc ?_ | refine zv ?_)
      refine loop_n (k + 1) (by omega) ?_ ?_ (by omega)
      . exact zs
      . rw [mk1_snoc]; simp [killH, keepH, memB]
    . have : k = s.toNat := by omega
      subst this
      repeat (first | refine zc ?_ | refine zv ?_)
      refine zt ?_
      rfl
end Go.Proofs.YtffmlijngfhhaaaGreatDoor
