/- Plain facts of a machine's mutants. No condition. -/
import Derived.Test.YtfemhnmggobhjaaGreatMa
import Derived.Test.YtfemhnmggobhjaaGreatPa
import Derived.Test.YtfemhnmggobhjaaGreatFwS
namespace Go.Proofs.YtfemhnmggobhjaaGreat
open Go
attribute [local irreducible] awp awpL awpQL awpQ awpM pWalk Qt AC thenQ blockQ loopQ OpTo
set_option linter.unusedVariables false
set_option linter.unusedSimpArgs false
set_option maxHeartbeats 2000000
attribute [local irreducible] HC
theorem rowsOk_tbl {s hi : Int} {xs : List (List Int)} (h : Tbl s hi xs) (hs : s ≤ 10) (hh : hi ≤ 10) (hn : xs.length ≤ 3) : RowsOk xs :=
  ⟨fun ns hm => by
    have := h ns hm
    exact ⟨fun n hn => by have := this.2 n hn; unfold I64; omega, by omega⟩, by omega⟩
theorem MV.rnx {s o : Int} {nx ou : List (List Int)} (m : MV s o nx ou) : RowsOk nx := rowsOk_tbl m.nx m.s1.2 m.s1.2 m.n1.2
theorem MV.rou {s o : Int} {nx ou : List (List Int)} (m : MV s o nx ou) : RowsOk ou := rowsOk_tbl m.ou m.s1.2 (by have := m.o1; omega) (by rw [m.eq]; exact m.n1.2)
end Go.Proofs.YtfemhnmggobhjaaGreat
namespace Go.Proofs.YtfemhnmggobhjaaGreat
open Go
attribute [local irreducible] awp awpL awpQL awpQ awpM pWalk Qt AC thenQ blockQ loopQ OpTo
set_option linter.unusedVariables false
set_option linter.unusedSimpArgs false
set_option maxHeartbeats 2000000
attribute [local irreducible] HC
theorem elsOk_ints : ∀ ns : List Int, elsOk 1 (ns.map (D.int .i64)) = true
  | [] => rfl
  | n :: ns => by simp [elsOk, D.el, D.one, D.width, elsOk_ints ns]
theorem spec_l00OwnH {ns : List Int} (hn : ns.length ≤ 1048576) : HC Tryz.prog 45 [.d (ints ns)] [] (.own 30000) [(30000, .arr 2 1 (ns.map (.int .i64)))] := by
  have hl : (List.map (D.int IntKind.i64) ns).length = ns.length := by simp
  refine hc_intro tabIs _ Tryz.func45 rfl rfl Tryz.ntmps45 rfl rfl rfl ?_ fun w0 ok0 XM XA anc => ?_
  . exact likeIn_nil
  repeat (first | refine v_w (t := 3) ?_ | refine zc ?_ | refine u_w (t := 3) ?_ | refine zv ?_)
  (apply lto; (focus (apply wo_append; (iterate 14 exact rfl); exact elsOk_ints ns; (simp; omega))))
  repeat (first | refine zc ?_ | refine zv ?_)
  (refine zb ?_; refine u_rH [(3, 30000)] ?_ ?_)
  . rfl
  . rfl
theorem spec_l00Same {a b : List Int} (h1 : a.length ≤ 9223372036854775807) (h2 : b.length ≤ 9223372036854775807) : AC Tryz.prog 97 [ints a, ints b] (.bool (decide (a = b))) := by
  have hla : (List.map (D.int IntKind.i64) a).length = a.length := by simp
  have hlb : (List.map (D.int IntKind.i64) b).length = b.length := by simp
  by_cases hl : a.length = b.length
  . refine ac_intro tabIs _ Tryz.func97 rfl rfl Tryz.ntmps97 rfl rfl fun w0 ok0 => ?_
    repeat (first | refine zc ?_ | refine zv ?_)
    refine awp_loop (fun k : Nat => k ≤ a.length ∧ a.take k = b.take k) (fun k => [(0, .d (ints a)), (1, .d (ints b)), (5, .d (.int .i64 k))]) (fun _ => []) (fun k => a.length - k) 0 ⟨by omega, rfl⟩ ?_ rfl ?_
    . exact zs
    . rintro k ⟨hk, ht⟩
      by_cases hlt : k < a.length
      . have hlt2 : k < b.length := by omega
        have ea := el_int hlt
        have eb := el_int hlt2
        by_cases hc : a[k] = b[k]
        . have hs := eq_step hlt hlt2 ht hc
          repeat (first | refine zc ?_ | refine zv ?_)
          refine loop_n (k + 1) ⟨by omega, hs⟩ ?_ rfl (by omega)
          exact zs
        . repeat (first | refine zc ?_ | refine zv ?_)
          refine zt ?_
          have : ¬ a = b := fun e => hc (by subst e; rfl)
          simp [this]
      . have hk' : k = a.length := by omega
        subst hk'
        rw [List.take_length, hl, List.take_length] at ht
        repeat (first | refine zc ?_ | refine zv ?_)
        refine zt ?_
        simp [ht]
  . refine ac_intro tabIs _ Tryz.func97 rfl rfl Tryz.ntmps97 rfl rfl fun w0 ok0 => ?_
    repeat (first | refine zc ?_ | refine zv ?_)
    refine zt ?_
    have : ¬ a = b := fun e => hl (by rw [e])
    simp [this]
end Go.Proofs.YtfemhnmggobhjaaGreat
