/- Plain facts of mutants: different ones differ, and one differs from its machine in one place. No condition. -/
import Derived.Test.YtfemhnmggobhjaaGreatPe
import Derived.Test.YtfemhnmggobhjaaGreatTc
import Derived.Test.YtfemhnmggobhjaaGreatFwY
namespace Go.Proofs.YtfemhnmggobhjaaGreat
open Go
attribute [local irreducible] awp awpL awpQL awpQ awpM pWalk Qt AC thenQ blockQ loopQ OpTo
set_option linter.unusedVariables false
set_option linter.unusedSimpArgs false
set_option maxHeartbeats 2000000
attribute [local irreducible] HC
end Go.Proofs.YtfemhnmggobhjaaGreat
namespace Go.Proofs.YtfemhnmggobhjaaGreat
open Go
attribute [local irreducible] awp awpL awpQL awpQ awpM pWalk Qt AC thenQ blockQ loopQ OpTo
set_option linter.unusedVariables false
set_option linter.unusedSimpArgs false
set_option maxHeartbeats 2000000
attribute [local irreducible] HC
section
variable {N M : Nat} {F : Nat → Nat → Bool}
end
section
variable {s o : Int} {nx ou : List (List Int)}
variable {ws : List (List Int)}
end
end Go.Proofs.YtfemhnmggobhjaaGreat
namespace Go.Proofs.YtfemhnmggobhjaaGreat
open Go
attribute [local irreducible] awp awpL awpQL awpQ awpM pWalk Qt AC thenQ blockQ loopQ OpTo
set_option linter.unusedVariables false
set_option linter.unusedSimpArgs false
set_option maxHeartbeats 2000000
attribute [local irreducible] HC
theorem laws_f6in {ws : List (List Int)} {w : List Int} (h1 : RowsOk ws) (h2 : w.length ≤ 9223372036854775807) : AC Tryz.prog 30 [rows ws, ints w] (.bool (decide (w ∈ ws))) := by
  have hle : (List.map ints ws).length = ws.length := by simp
  have h1' := h1.2
  refine ac_intro tabIs _ Tryz.func30 rfl rfl Tryz.ntmps30 rfl rfl fun w0 ok0 => ?_
  repeat (first | refine zc ?_ | refine zv ?_)
  refine awp_loop (fun i : Nat => i ≤ ws.length ∧ w ∉ ws.take i) (fun i => [(0, .d (rows ws)), (1, .d (ints w)), (5, .d (.int .i64 i))]) (fun i => []) (fun i => ws.length - i) 0 ⟨by omega, by simp⟩ ?_ rfl ?_
  . exact zs
  . rintro i ⟨hi, hno⟩
    by_cases hlt : i < ws.length
    . have hx := el_row hlt
      have e1 := laws_f6ints (a := ws[i]) (b := w) (h1.1 _ (List.getElem_mem hlt)).2 h2
      by_cases he : ws[i] = w
      . rw [decide_eq_true he] at e1
        repeat (first | refine zc ?_ | refine zk (e := by exact e1) (n := ?_) | refine zv ?_)
        refine zt ?_
        rw [decide_eq_true (he ▸ List.getElem_mem hlt)]
      . rw [decide_eq_false he] at e1
        repeat (first | refine zc ?_ | refine zk (e := by exact e1) (n := ?_) | refine zv ?_)
        refine loop_n (i + 1) ⟨by omega, ?_⟩ ?_ rfl (by omega)
        . rw [List.take_succ_eq_append_getElem hlt]
          simp only [List.mem_append, List.mem_singleton, not_or]
          exact ⟨hno, fun h => he h.symm⟩
        . exact zs
    . have hie : i = ws.length := by omega
      subst hie
      rw [List.take_length] at hno
      rw [decide_eq_false hno]
      repeat (first | refine zc ?_ | refine zv ?_)
      refine zt ?_
      rfl
section
variable {s o : Int} {nx ou ws : List (List Int)}
end
end Go.Proofs.YtfemhnmggobhjaaGreat
