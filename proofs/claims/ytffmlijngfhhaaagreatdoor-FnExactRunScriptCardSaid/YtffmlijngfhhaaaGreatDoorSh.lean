/- The law of RunScript. Condition: the variables of strconv are laid. -/
import Derived.Test.YtffmlijngfhhaaaGreatDoorSc
import Derived.Test.YtffmlijngfhhaaaGreatDoorSf
namespace Go.Proofs.YtffmlijngfhhaaaGreatDoor
open Go
attribute [local irreducible] awp awpL awpQL awpQ awpM pWalk Qt AC thenQ blockQ loopQ OpTo
set_option linter.unusedVariables false
set_option linter.unusedSimpArgs false
set_option maxHeartbeats 2000000
attribute [local irreducible] HC
theorem law_ExactRunScript {s st : Int} {nx : List (List Int)} {lp : List Int} {l : List UInt8} (g1 : I64 s) (h1 : RowsOk nx) (h2 : IntsOk lp) (g5 : I64 st) :
    AC Tryz.prog 5 [ltD s nx lp, .int .i64 st, .str l] (.bool true) := by
  have hl := h2.2
  have hb : (0 : Int) ≤ 1048576 ∧ (1048576 : Int) ≤ 1048576 := by omega
  by_cases hll : 1048576 < l.length
  · unfold ltD
    refine ac_intro tabIs _ Tryz.func5 rfl rfl Tryz.ntmps5 rfl rfl fun w0 ok0 he0 => ?_
    repeat (first | refine awp_seq ?_ | refine then_n ?_ | refine then_r ?_ | refine then_x ?_ | refine block_n ?_ | refine block_r ?_ | refine block_x ?_ | refine u_y ?_ | refine loop_r ?_ | refine loop_x ?_ | refine awp_region ?_ | refine awpL_nil ?_ | refine awpQL_nil ?_ | refine awp_block ?_ | refine awp_skip ?_ | refine awp_exit ?_ | refine awp_label ?_ | refine u_dT ?_ | refine u_d ?_ | refine u_l ?_ | refine u_o ?_ | refine u_q ?_ | refine u_lr ?_ | refine u_qr ?_ | refine u_ls ?_ | refine u_qs ?_ | refine u_t ?_ | refine u_f ?_ | refine v_s ?_ | refine v_o ?_ | refine v_on ?_ | refine v_og ?_ | refine v_q ?_ | refine v_sr ?_ | refine v_k ?_ | refine m_nil ?_)
    (refine awp_ret ?_; (repeat (first | refine then_r ?_ | refine block_r ?_ | refine loop_r ?_)); apply ret_ok (.inr rfl); (focus exact rfl))
    rfl
  have e1 := laws_szLit (s := s) (nx := nx) (lp := lp) (left := 1048576) h1 hl hb
  by_cases hc : szLitF nx lp 1048576 < 0
  · unfold ltD
    refine ac_intro tabIs _ Tryz.func5 rfl rfl Tryz.ntmps5 rfl rfl fun w0 ok0 he0 => ?_
    repeat (first | refine awp_seq ?_ | refine then_n ?_ | refine then_r ?_ | refine then_x ?_ | refine block_n ?_ | refine block_r ?_ | refine block_x ?_ | refine u_y ?_ | refine loop_r ?_ | refine loop_x ?_ | refine awp_region ?_ | refine awpL_nil ?_ | refine awpQL_nil ?_ | refine awp_block ?_ | refine awp_skip ?_ | refine awp_exit ?_ | refine awp_label ?_ | refine u_dT ?_ | refine u_d ?_ | ((first | apply c_l | apply c_q | apply c_lr | apply c_qr); (iterate 2 exact rfl); (focus (first | exact e1)); (iterate 2 exact rfl)) | (apply v_c; (iterate 4 exact rfl); (focus (first | exact e1)); (iterate 2 exact rfl)) | refine u_l ?_ | refine u_o ?_ | refine u_q ?_ | refine u_lr ?_ | refine u_qr ?_ | refine u_ls ?_ | refine u_qs ?_ | refine u_t ?_ | refine u_f ?_ | refine v_s ?_ | refine v_o ?_ | refine v_on ?_ | refine v_og ?_ | refine v_q ?_ | refine v_sr ?_ | refine v_k ?_ | refine m_nil ?_)
    (refine awp_ret ?_; (repeat (first | refine then_r ?_ | refine block_r ?_ | refine loop_r ?_)); apply ret_ok (.inr rfl); (focus exact rfl))
    rfl
  · obtain ⟨a1, a2, a3⟩ := szLitF_ok hc
    have hle := szLit_le hc
    have t1 := laws_toLit (s := s) a1 a2 a3
    have f1 := spec_RunScript (s := s) (st := st) (l := l) h1 hl (by omega)
    have f2 := impl_RunScript (s := s) (st := st) (l := l) h1 hl (by omega)
    have q3 : AC Tryz.prog 33 [.agg [.int .i64 s, rows nx, ints lp], .agg [.int .i64 s, rows nx, ints lp]] (.bool true) := by
      have := laws_eqLit (s := s) (s' := s) (nx := nx) (nx' := nx) (lp := lp) (lp' := lp) h1 h1 hl hl
      simpa using this
    generalize szLitF nx lp 1048576 = left at *
    generalize scO s st nx lp l = o at *
    generalize scC s st nx lp l = c at *
    unfold ltD at *
    refine ac_intro tabIs _ Tryz.func5 rfl rfl Tryz.ntmps5 rfl rfl fun w0 ok0 he0 => ?_
    repeat (first | refine awp_seq ?_ | refine then_n ?_ | refine then_r ?_ | refine then_x ?_ | refine block_n ?_ | refine block_r ?_ | refine block_x ?_ | refine u_y ?_ | refine loop_r ?_ | refine loop_x ?_ | refine awp_region ?_ | refine awpL_nil ?_ | refine awpQL_nil ?_ | refine awp_block ?_ | refine awp_skip ?_ | refine awp_exit ?_ | refine awp_label ?_ | refine u_dT ?_ | refine u_d ?_ | ((first | apply c_l | apply c_q | apply c_lr | apply c_qr); (iterate 2 exact rfl); (focus (first | exact e1 | exact t1 | exact f1 | exact f2 | exact q3)); (iterate 2 exact rfl)) | (apply v_c; (iterate 4 exact rfl); (focus (first | exact e1 | exact t1 | exact f1 | exact f2 | exact q3)); (iterate 2 exact rfl)) | refine u_l ?_ | refine u_o ?_ | refine u_q ?_ | refine u_lr ?_ | refine u_qr ?_ | refine u_ls ?_ | refine u_qs ?_ | refine u_t ?_ | refine u_f ?_ | refine v_s ?_ | refine v_o ?_ | refine v_on ?_ | refine v_og ?_ | refine v_q ?_ | refine v_sr ?_ | refine v_k ?_ | refine m_nil ?_ | refine u_glt ?_ | refine u_glf ?_ | refine u_gqt ?_ | refine u_gqf ?_)
    (refine awp_ret ?_; (repeat (first | refine then_r ?_ | refine block_r ?_ | refine loop_r ?_)); apply ret_ok (.inr rfl); (focus exact rfl))
    rfl
end Go.Proofs.YtffmlijngfhhaaaGreatDoor
