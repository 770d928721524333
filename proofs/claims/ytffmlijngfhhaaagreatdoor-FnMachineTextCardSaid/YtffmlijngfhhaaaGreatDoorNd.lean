/- The program's machine whose states are picked, for all states. No condition. -/
import Derived.Test.YtffmlijngfhhaaaGreatDoorNa
namespace Go.Proofs.YtffmlijngfhhaaaGreatDoor
open Go
attribute [local irreducible] awp awpL awpQL awpQ awpM pWalk Qt AC thenQ blockQ loopQ OpTo
set_option linter.unusedVariables false
set_option linter.unusedSimpArgs false
set_option maxHeartbeats 2000000
attribute [local irreducible] HC

theorem ints_take {ns : List Int} {k : Nat} (hk : k < ns.length) : (ns.take k).map (D.int .i64) ++ [.int .i64 ns[k]] = (ns.take (k + 1)).map (D.int .i64) := by
  rw [List.take_succ_eq_append_getElem hk, List.map_append]
  rfl

end Go.Proofs.YtffmlijngfhhaaaGreatDoor

/-! The reference's mutant. No condition. -/
namespace Go.Proofs.YtffmlijngfhhaaaGreatDoor
open Go
attribute [local irreducible] awp awpL awpQL awpQ awpM pWalk Qt AC thenQ blockQ loopQ OpTo
set_option linter.unusedVariables false
set_option linter.unusedSimpArgs false
set_option maxHeartbeats 2000000
attribute [local irreducible] HC

end Go.Proofs.YtffmlijngfhhaaaGreatDoor

/-! The program's mutant, and what it looks at first. No condition. -/
namespace Go.Proofs.YtffmlijngfhhaaaGreatDoor
open Go
attribute [local irreducible] awp awpL awpQL awpQ awpM pWalk Qt AC thenQ blockQ loopQ OpTo
set_option linter.unusedVariables false
set_option linter.unusedSimpArgs false
set_option maxHeartbeats 2000000
attribute [local irreducible] HC

end Go.Proofs.YtffmlijngfhhaaaGreatDoor

/-! MutantAt, in the reference and in the program, and its law. No condition. -/
namespace Go.Proofs.YtffmlijngfhhaaaGreatDoor
open Go
attribute [local irreducible] awp awpL awpQL awpQ awpM pWalk Qt AC thenQ blockQ loopQ OpTo
set_option linter.unusedVariables false
set_option linter.unusedSimpArgs false
set_option maxHeartbeats 2000000
attribute [local irreducible] HC

theorem impl_code {s o : Int} {nx ou : List (List Int)} {g : Nat} {cap : List D} {b : Bool} (h1 : RowsOk nx) (h2 : RowsOk ou) (hg : machOk s o nx ou = true → AC Tryz.prog g cap (.bool b)) :
    AC Tryz.prog 59 [mach s o nx ou, .fn g cap] (.int .i64 (if machOk s o nx ou then (if b then 0 else 2) else 1)) := by
  have e1 := impl_ValidMachine (s := s) (o := o) h1 h2
  by_cases hv : machOk s o nx ou = true
  · have e2 := hg hv
    rw [hv] at e1 ⊢
    cases b with
    | true =>
      refine ac_intro tabIs _ Tryz.func59 rfl rfl Tryz.ntmps59 rfl rfl fun w0 ok0 he0 => ?_
      repeat (first | refine awp_seq ?_ | refine then_n ?_ | refine then_r ?_ | refine then_x ?_ | refine block_n ?_ | refine block_r ?_ | refine block_x ?_ | refine u_y ?_ | refine loop_r ?_ | refine loop_x ?_ | refine awp_region ?_ | refine awpL_nil ?_ | refine awpQL_nil ?_ | refine awp_block ?_ | refine awp_skip ?_ | refine awp_exit ?_ | refine awp_label ?_ | refine u_dT ?_ | refine u_d ?_ | ((first | apply c_l | apply c_q | apply c_lr | apply c_qr); (iterate 2 exact rfl); (focus (first | exact e1 | exact e2)); (iterate 2 exact rfl)) | (apply v_c; (iterate 4 exact rfl); (focus (first | exact e1 | exact e2)); (iterate 2 exact rfl)) | refine u_l ?_ | refine u_o ?_ | refine u_q ?_ | refine u_lr ?_ | refine u_qr ?_ | refine u_ls ?_ | refine u_qs ?_ | refine u_t ?_ | refine u_f ?_ | refine v_s ?_ | refine v_o ?_ | refine v_on ?_ | refine v_og ?_ | refine v_q ?_ | refine v_sr ?_ | refine v_k ?_ | refine m_nil ?_)
      (refine awp_ret ?_; (repeat (first | refine then_r ?_ | refine block_r ?_ | refine loop_r ?_)); apply ret_ok (.inr rfl); (focus exact rfl))
      rfl
    | false =>
      refine ac_intro tabIs _ Tryz.func59 rfl rfl Tryz.ntmps59 rfl rfl fun w0 ok0 he0 => ?_
      repeat (first | refine awp_seq ?_ | refine then_n ?_ | refine then_r ?_ | refine then_x ?_ | refine block_n ?_ | refine block_r ?_ | refine block_x ?_ | refine u_y ?_ | refine loop_r ?_ | refine loop_x ?_ | refine awp_region ?_ | refine awpL_nil ?_ | refine awpQL_nil ?_ | refine awp_block ?_ | refine awp_skip ?_ | refine awp_exit ?_ | refine awp_label ?_ | refine u_dT ?_ | refine u_d ?_ | ((first | apply c_l | apply c_q | apply c_lr | apply c_qr); (iterate 2 exact rfl); (focus (first | exact e1 | exact e2)); (iterate 2 exact rfl)) | (apply v_c; (iterate 4 exact rfl); (focus (first | exact e1 | exact e2)); (iterate 2 exact rfl)) | refine u_l ?_ | refine u_o ?_ | refine u_q ?_ | refine u_lr ?_ | refine u_qr ?_ | refine u_ls ?_ | refine u_qs ?_ | refine u_t ?_ | refine u_f ?_ | refine v_s ?_ | refine v_o ?_ | refine v_on ?_ | refine v_og ?_ | refine v_q ?_ | refine v_sr ?_ | refine v_k ?_ | refine m_nil ?_)
      (refine awp_ret ?_; (repeat (first | refine then_r ?_ | refine block_r ?_ | refine loop_r ?_)); apply ret_ok (.inr rfl); (focus exact rfl))
      rfl
  · have hv' : machOk s o nx ou = false := by simpa using hv
    rw [hv'] at e1 ⊢
    refine ac_intro tabIs _ Tryz.func59 rfl rfl Tryz.ntmps59 rfl rfl fun w0 ok0 he0 => ?_
    repeat (first | refine awp_seq ?_ | refine then_n ?_ | refine then_r ?_ | refine then_x ?_ | refine block_n ?_ | refine block_r ?_ | refine block_x ?_ | refine u_y ?_ | refine loop_r ?_ | refine loop_x ?_ | refine awp_region ?_ | refine awpL_nil ?_ | refine awpQL_nil ?_ | refine awp_block ?_ | refine awp_skip ?_ | refine awp_exit ?_ | refine awp_label ?_ | refine u_dT ?_ | refine u_d ?_ | ((first | apply c_l | apply c_q | apply c_lr | apply c_qr); (iterate 2 exact rfl); (focus (first | exact e1)); (iterate 2 exact rfl)) | (apply v_c; (iterate 4 exact rfl); (focus (first | exact e1)); (iterate 2 exact rfl)) | refine u_l ?_ | refine u_o ?_ | refine u_q ?_ | refine u_lr ?_ | refine u_qr ?_ | refine u_ls ?_ | refine u_qs ?_ | refine u_t ?_ | refine u_f ?_ | refine v_s ?_ | refine v_o ?_ | refine v_on ?_ | refine v_og ?_ | refine v_q ?_ | refine v_sr ?_ | refine v_k ?_ | refine m_nil ?_)
    (refine awp_ret ?_; (repeat (first | refine then_r ?_ | refine block_r ?_ | refine loop_r ?_)); apply ret_ok (.inr rfl); (focus exact rfl))
    rfl

end Go.Proofs.YtffmlijngfhhaaaGreatDoor
