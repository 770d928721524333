/- KilledBy, in the reference and in the program, and its law. No condition. -/
import Derived.Test.YtkaffmojojnhhaaNe
import Derived.Test.YtkaffmojojnhhaaPc
import Derived.Test.YtkaffmojojnhhaaPb
namespace Go.Proofs.Ytkaffmojojnhhaa
open Go
attribute [local irreducible] awp awpL awpQL awpQ awpM pWalk Qt AC thenQ blockQ loopQ OpTo
set_option linter.unusedVariables false
set_option linter.unusedSimpArgs false
set_option maxHeartbeats 2000000
attribute [local irreducible] HC

theorem failR_ge (p : Int × Int) : (0 ≤ (failR p).1 ↔ 0 ≤ p.1) := by
  unfold failR
  split
  · simp; omega
  · simp

structure SuOk (n : Nat) (ws : List (List Int)) : Prop where
  len : ws.length ≤ 400
  all : ∀ w ∈ ws, w.length ≤ 400 ∧ ∀ l ∈ w, 0 ≤ l ∧ l < n

theorem impl_passes {s o s' o' : Int} {nx ou nx' ou' ws : List (List Int)} (m : MV s o nx ou) (n : MV s' o' nx' ou') (he : nx'.length = nx.length) (hw : SuOk nx.length ws) :
    AC Try.prog 70 [mach s o nx ou, mach s' o' nx' ou', rows ws] (.bool (decide ((failS nx ou nx' ou' 0 ws).1 < 0))) := by
  have e1 := impl_failing m n he hw.len hw.all
  unfold mach at *
  refine ac_intro tabIs _ Try.func70 rfl rfl Try.ntmps70 rfl rfl fun w0 ok0 => ?_
  repeat (first | refine awp_seq ?_ | refine then_n ?_ | refine then_r ?_ | refine then_x ?_ | refine block_n ?_ | refine block_r ?_ | refine block_x ?_ | refine u_y ?_ | refine loop_r ?_ | refine loop_x ?_ | refine awp_region ?_ | refine awpL_nil ?_ | refine awpQL_nil ?_ | refine awp_block ?_ | refine awp_skip ?_ | refine awp_exit ?_ | refine awp_label ?_ | refine u_dT ?_ | refine u_d ?_ | ((first | apply c_l | apply c_q | apply c_lr | apply c_qr); (iterate 2 exact rfl); (focus (first | exact e1)); (iterate 2 exact rfl)) | (apply v_c; (iterate 4 exact rfl); (focus (first | exact e1)); (iterate 2 exact rfl)) | refine u_l ?_ | refine u_o ?_ | refine u_q ?_ | refine u_lr ?_ | refine u_qr ?_ | refine u_ls ?_ | refine u_qs ?_ | refine u_t ?_ | refine u_f ?_ | refine v_s ?_ | refine v_o ?_ | refine v_on ?_ | refine v_og ?_ | refine v_q ?_ | refine v_sr ?_ | refine v_k ?_ | refine m_nil ?_)
  (refine awp_ret ?_; (repeat (first | refine then_r ?_ | refine block_r ?_ | refine loop_r ?_)); apply ret_ok (.inr rfl); (focus exact rfl))
  rfl

theorem spec_l07Given {s o : Int} {nx ou ws : List (List Int)} (h1 : RowsOk nx) (h2 : RowsOk ou) (h3 : RowsOk ws) : AC Try.prog 71 [.ptr (mach s o nx ou), rows ws] (.int .i64 (if machOk s o nx ou then (if suiteOk nx.length ws then 0 else 2) else 1)) := by
  have e1 := spec_l06Ok (s := s) (o := o) h1 h2
  have e2 := spec_l07Suite (s := s) (o := o) (nx := nx) (ou := ou) (ws := ws) h1.2 h3
  generalize machOk s o nx ou = b1 at *
  generalize suiteOk nx.length ws = b2 at *
  cases b1 <;> cases b2 <;>
  · refine ac_intro tabIs _ Try.func71 rfl rfl Try.ntmps71 rfl rfl fun w0 ok0 => ?_
    repeat (first | refine awp_seq ?_ | refine then_n ?_ | refine then_r ?_ | refine then_x ?_ | refine block_n ?_ | refine block_r ?_ | refine block_x ?_ | refine u_y ?_ | refine loop_r ?_ | refine loop_x ?_ | refine awp_region ?_ | refine awpL_nil ?_ | refine awpQL_nil ?_ | refine awp_block ?_ | refine awp_skip ?_ | refine awp_exit ?_ | refine awp_label ?_ | refine u_dT ?_ | refine u_d ?_ | ((first | apply c_l | apply c_q | apply c_lr | apply c_qr); (iterate 2 exact rfl); (focus (first | exact e1 | exact e2)); (iterate 2 exact rfl)) | (apply v_c; (iterate 4 exact rfl); (focus (first | exact e1 | exact e2)); (iterate 2 exact rfl)) | refine u_l ?_ | refine u_o ?_ | refine u_q ?_ | refine u_lr ?_ | refine u_qr ?_ | refine u_ls ?_ | refine u_qs ?_ | refine u_t ?_ | refine u_f ?_ | refine v_s ?_ | refine v_o ?_ | refine v_on ?_ | refine v_og ?_ | refine v_q ?_ | refine v_sr ?_ | refine v_k ?_ | refine m_nil ?_)
    (refine awp_ret ?_; (repeat (first | refine then_r ?_ | refine block_r ?_ | refine loop_r ?_)); apply ret_ok (.inr rfl); (focus exact rfl))
    rfl

end Go.Proofs.Ytkaffmojojnhhaa
