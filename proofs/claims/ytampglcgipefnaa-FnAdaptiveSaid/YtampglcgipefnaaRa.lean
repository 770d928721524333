/- Rows that are sorted in place, and of equal neighbours one: plain facts. No condition. -/
import Derived.Test.YtampglcgipefnaaSb
import Derived.Test.YtampglcgipefnaaFy
import Derived.Test.YtampglcgipefnaaFwZb
import Derived.Test.YtampglcgipefnaaKa
namespace Go.Proofs.Ytampglcgipefnaa
open Go
attribute [local irreducible] awp awpL awpQL awpQ awpM pWalk Qt AC thenQ blockQ loopQ OpTo
set_option linter.unusedVariables false
set_option linter.unusedSimpArgs false
set_option maxHeartbeats 2000000
attribute [local irreducible] HC

/-! ### Two sorted orders of the same numbers are one -/
/-! ### Two neighbours change places -/
/-! ### Numbers are put to their places one by one -/
/-! ### Of equal neighbours one -/
/-! ### The row while equal neighbours are left out in place -/
end Go.Proofs.Ytampglcgipefnaa

/-! Numbers sorted in place, at most twelve; of equal neighbours one; the image of a set. No condition. -/
namespace Go.Proofs.Ytampglcgipefnaa
open Go
attribute [local irreducible] awp awpL awpQL awpQ awpM pWalk Qt AC thenQ blockQ loopQ OpTo
set_option linter.unusedVariables false
set_option linter.unusedSimpArgs false
set_option maxHeartbeats 2000000
attribute [local irreducible] HC

theorem impl_atW {s q0 : Int} {nx : List (List Int)} {lp w : List Int} (v : LV s nx lp) (hq0 : 0 ≤ q0 ∧ q0 < s) (hwl : w.length ≤ 400) (hwa : ∀ l ∈ w, 0 ≤ l ∧ l < nx.length) :
    AC Try.prog 86 [.agg [.int .i64 s, rows nx], .int .i64 q0, ints w] (.int .i64 (runS nx q0 w)) := by
  have hle : (List.map (D.int IntKind.i64) w).length = w.length := by simp
  refine ac_intro tabIs _ Try.func86 rfl rfl Try.ntmps86 rfl rfl fun w0 ok0 => ?_
  repeat (first | refine zc ?_ | refine zv ?_)
  refine awp_loop (fun p : Nat × Int => p.1 ≤ w.length ∧ (0 ≤ p.2 ∧ p.2 < s) ∧ runS nx p.2 (w.drop p.1) = runS nx q0 w)
    (fun p => [(1, .d (.int .i64 p.2)), (3, .d (.ptr (.agg [.int .i64 s, rows nx]))), (9, .d (ints w)), (10, .d (.int .i64 (List.map (D.int IntKind.i64) w).length)), (11, .d (.int .i64 p.1))]) (fun _ => []) (fun p => w.length - p.1) (0, q0) ⟨by simp, hq0, rfl⟩ ?_ rfl ?_
  · exact zs
  · rintro ⟨k, q⟩ ⟨hk, hq, hg⟩
    dsimp only at hk hq hg
    by_cases hlt : k < w.length
    · have hx := el_int hlt
      have hl := hwa _ (List.getElem_mem hlt)
      have r1 := el_row2 hl
      have l1 := tbl_row v.nx hl
      have q1 : (List.map (D.int .i64) (row nx w[k]))[q.toNat]? = some (.int .i64 (at2 nx w[k] q)) := el_int2 (ns := row nx w[k]) (q := q) (by omega)
      have p1 := tbl_at v.nx hl hq
      rw [List.drop_eq_getElem_cons hlt] at hg
      simp only [runS] at hg
      repeat (first | refine zc ?_ | refine zv ?_)
      refine loop_n (k + 1, at2 nx w[k] q) ⟨by omega, p1, hg⟩ ?_ rfl (by dsimp only; omega)
      exact zs
    · have : k = w.length := by omega
      subst this
      simp only [List.drop_length, runS] at hg
      subst hg
      repeat (first | refine zc ?_ | refine zv ?_)
      (refine awp_ret ?_; (repeat (first | refine then_r ?_ | refine block_r ?_ | refine loop_r ?_)); apply ret_ok (.inr rfl); (focus exact rfl))
      rfl
end Go.Proofs.Ytampglcgipefnaa
