/- HomeDeeds: what is held of deeds. No condition. -/
import Derived.Test.YtampglcgipefnaaGreatOm
namespace Go.Proofs.YtampglcgipefnaaGreat
open Go
attribute [local irreducible] awp awpL awpQL awpQ awpM pWalk Qt AC thenQ blockQ loopQ OpTo
set_option linter.unusedVariables false
set_option linter.unusedSimpArgs false
set_option maxHeartbeats 2000000
attribute [local irreducible] HC

theorem mkDs_get : ∀ (n : Nat) (k : Int) (i : Nat) (h : i < n), (mkDs k n)[i]? = some (k + 2 * i, k + 2 * i + 1)
  | n + 1, k, 0, _ => by simp [mkDs]
  | n + 1, k, i + 1, h => by
    have := mkDs_get n (k + 2) i (by omega)
    have e : k + 2 + 2 * (i : Int) = k + 2 * ((i + 1 : Nat) : Int) := by omega
    rw [e] at this
    rw [mkDs, List.getElem?_cons_succ, this]
theorem laws_heldDeedS {n : Nat} {k : Int} (hk : 0 ≤ k) (hl : k + 2 * n ≤ 4611686018427387904) : AC Tryz.prog 31 [deedsD (mkDs k n), .int .i64 k] (.int .i64 (k + 2 * n)) := by
  have hlen := mkDs_len n k
  have hle : ((mkDs k n).map deedD).length = n := by simp [hlen]
  unfold deedsD
  refine ac_intro tabIs _ Tryz.func31 rfl rfl Tryz.ntmps31 rfl rfl fun w0 ok0 => ?_
  repeat (first | refine zc ?_ | refine zv ?_)
  refine awp_loop (fun i : Nat => i ≤ n) (fun i => [(0, .d (.lst ((mkDs k n).map deedD))), (1, .d (.int .i64 (k + 2 * i))), (5, .d (.int .i64 i))]) (fun _ => []) (fun i => n - i) 0 (by simp) ?_ rfl ?_
  · refine ⟨rfl, ?_, rfl, trivial⟩
    simp [lk, args0]
  · intro i hi
    by_cases hlt : i < n
    · have hx : ((mkDs k n).map deedD)[(i : Int).toNat]? = some (.agg [.int .i64 (k + 2 * i), .int .i64 (k + 2 * i + 1)]) := by
        rw [Int.toNat_natCast, List.getElem?_map, mkDs_get n k i hlt]
        rfl
      repeat (first | refine zc ?_ | refine zv ?_)
      refine loop_n (i + 1) (by omega) ?_ rfl (by omega)
      exact zs
    · have : i = n := by omega
      subst this
      repeat (first | refine zc ?_ | refine zv ?_)
      (refine awp_ret ?_; (repeat (first | refine then_r ?_ | refine block_r ?_ | refine loop_r ?_)); apply ret_ok (.inr rfl); (focus exact rfl))
      rfl
end Go.Proofs.YtampglcgipefnaaGreat
