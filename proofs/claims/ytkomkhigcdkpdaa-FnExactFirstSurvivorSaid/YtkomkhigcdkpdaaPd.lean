/- Contracts of FirstFailing and Passes, in the program and in the reference. No condition. -/
import Derived.Test.YtkomkhigcdkpdaaPc
namespace Go.Proofs.Ytkomkhigcdkpdaa
open Go
attribute [local irreducible] awp awpL awpQL awpQ awpM pWalk Qt AC thenQ blockQ loopQ OpTo
set_option linter.unusedVariables false
set_option linter.unusedSimpArgs false
set_option maxHeartbeats 2000000

/-- What the reference tells. -/
def failR (p : Int × Int) : Int × Int := if p.1 < 0 then (-1, 0) else p

theorem failS_step (nx ou nx' ou' : List (List Int)) (ws : List (List Int)) (i : Nat) (h : i < ws.length) : failS nx ou nx' ou' i (ws.drop i) = if failW nx ou nx' ou' 0 0 0 ws[i] < 0 then failS nx ou nx' ou' (i + 1) (ws.drop (i + 1)) else (i, failW nx ou nx' ou' 0 0 0 ws[i]) := by
  rw [List.drop_eq_getElem_cons h, failS]

theorem spec_l07Failing {s o s' o' : Int} {nx ou nx' ou' ws : List (List Int)} (m : MV s o nx ou) (n : MV s' o' nx' ou') (he : nx'.length = nx.length) (hws : ws.length ≤ 400) (hw : ∀ w ∈ ws, w.length ≤ 400 ∧ ∀ l ∈ w, 0 ≤ l ∧ l < nx.length) :
    AC Try.prog 87 [.ptr (mach s o nx ou), .ptr (mach s' o' nx' ou'), rows ws] (.tup [.int .i64 (failR (failS nx ou nx' ou' 0 ws)).1, .int .i64 (failR (failS nx ou nx' ou' 0 ws)).2]) := by
  have hle : (List.map ints ws).length = ws.length := by simp
  refine ac_intro tabIs _ Try.func87 rfl rfl Try.ntmps87 rfl rfl fun w0 ok0 => ?_
  repeat (first | refine awp_seq ?_ | refine then_n ?_ | refine then_r ?_ | refine then_x ?_ | refine block_n ?_ | refine block_r ?_ | refine block_x ?_ | refine u_y ?_ | refine loop_r ?_ | refine loop_x ?_ | refine awp_region ?_ | refine awpL_nil ?_ | refine awpQL_nil ?_ | refine awp_block ?_ | refine awp_skip ?_ | refine awp_exit ?_ | refine awp_label ?_ | refine u_dT ?_ | refine u_d ?_ | refine u_l ?_ | refine u_o ?_ | refine u_q ?_ | refine u_lr ?_ | refine u_qr ?_ | refine u_ls ?_ | refine u_qs ?_ | refine u_t ?_ | refine u_f ?_ | refine v_s ?_ | refine v_o ?_ | refine v_on ?_ | refine v_og ?_ | refine v_q ?_ | refine v_sr ?_ | refine v_k ?_ | refine m_nil ?_)
  refine awp_loop (fun i : Nat => i ≤ ws.length ∧ failS nx ou nx' ou' i (ws.drop i) = failS nx ou nx' ou' 0 ws)
    (fun i => [(0, .d (.ptr (mach s o nx ou))), (1, .d (.ptr (mach s' o' nx' ou'))), (2, .d (rows ws)), (8, .d (.int .i64 i))]) (fun _ => []) (fun i => ws.length - i) 0 (by simp) ?_ rfl ?_
  · ((repeat (first | exact trivial | (refine ⟨?_, ?_⟩; (focus (first | rfl | (simp [lk, argsS, args0]; done) | (simp [lk, argsS, args0]; omega)))))))
  · rintro i ⟨hi, hf⟩
    by_cases hlt : i < ws.length
    · have hx := el_row hlt
      obtain ⟨hwl, hwa⟩ := hw _ (List.getElem_mem hlt)
      have e := spec_l07Fails m n he hwl hwa
      rw [failS_step _ _ _ _ _ _ hlt] at hf
      by_cases hc : failW nx ou nx' ou' 0 0 0 ws[i] < 0
      · rw [if_pos hc] at hf
        repeat (first | refine awp_seq ?_ | refine then_n ?_ | refine then_r ?_ | refine then_x ?_ | refine block_n ?_ | refine block_r ?_ | refine block_x ?_ | refine u_y ?_ | refine loop_r ?_ | refine loop_x ?_ | refine awp_region ?_ | refine awpL_nil ?_ | refine awpQL_nil ?_ | refine awp_block ?_ | refine awp_skip ?_ | refine awp_exit ?_ | refine awp_label ?_ | refine u_dT ?_ | refine u_d ?_ | ((first | apply c_l | apply c_q | apply c_lr | apply c_qr); (iterate 2 exact rfl); (focus (first | exact e)); (iterate 2 exact rfl)) | (apply v_c; (iterate 4 exact rfl); (focus (first | exact e)); (iterate 2 exact rfl)) | refine u_l ?_ | refine u_o ?_ | refine u_q ?_ | refine u_lr ?_ | refine u_qr ?_ | refine u_ls ?_ | refine u_qs ?_ | refine u_t ?_ | refine u_f ?_ | refine v_s ?_ | refine v_o ?_ | refine v_on ?_ | refine v_og ?_ | refine v_q ?_ | refine v_sr ?_ | refine v_k ?_ | refine m_nil ?_)
        refine loop_n (i + 1) ⟨by omega, hf⟩ ?_ rfl (by omega)
        ((repeat (first | exact trivial | (refine ⟨?_, ?_⟩; (focus (first | rfl | (simp [lk, argsS, args0]; done) | (simp [lk, argsS, args0]; omega)))))))
      · rw [if_neg hc] at hf
        have hc' : 0 ≤ failW nx ou nx' ou' 0 0 0 ws[i] := by omega
        repeat (first | refine awp_seq ?_ | refine then_n ?_ | refine then_r ?_ | refine then_x ?_ | refine block_n ?_ | refine block_r ?_ | refine block_x ?_ | refine u_y ?_ | refine loop_r ?_ | refine loop_x ?_ | refine awp_region ?_ | refine awpL_nil ?_ | refine awpQL_nil ?_ | refine awp_block ?_ | refine awp_skip ?_ | refine awp_exit ?_ | refine awp_label ?_ | refine u_dT ?_ | refine u_d ?_ | ((first | apply c_l | apply c_q | apply c_lr | apply c_qr); (iterate 2 exact rfl); (focus (first | exact e)); (iterate 2 exact rfl)) | (apply v_c; (iterate 4 exact rfl); (focus (first | exact e)); (iterate 2 exact rfl)) | refine u_l ?_ | refine u_o ?_ | refine u_q ?_ | refine u_lr ?_ | refine u_qr ?_ | refine u_ls ?_ | refine u_qs ?_ | refine u_t ?_ | refine u_f ?_ | refine v_s ?_ | refine v_o ?_ | refine v_on ?_ | refine v_og ?_ | refine v_q ?_ | refine v_sr ?_ | refine v_k ?_ | refine m_nil ?_)
        (refine awp_ret ?_; (repeat (first | refine then_r ?_ | refine block_r ?_ | refine loop_r ?_)); apply ret_ok (.inr rfl); (focus exact rfl))
        rw [← hf]
        simp only [failR]
        rw [if_neg (by omega)]
    · have : i = ws.length := by omega
      subst this
      simp only [List.drop_length, failS] at hf
      repeat (first | refine awp_seq ?_ | refine then_n ?_ | refine then_r ?_ | refine then_x ?_ | refine block_n ?_ | refine block_r ?_ | refine block_x ?_ | refine u_y ?_ | refine loop_r ?_ | refine loop_x ?_ | refine awp_region ?_ | refine awpL_nil ?_ | refine awpQL_nil ?_ | refine awp_block ?_ | refine awp_skip ?_ | refine awp_exit ?_ | refine awp_label ?_ | refine u_dT ?_ | refine u_d ?_ | refine u_l ?_ | refine u_o ?_ | refine u_q ?_ | refine u_lr ?_ | refine u_qr ?_ | refine u_ls ?_ | refine u_qs ?_ | refine u_t ?_ | refine u_f ?_ | refine v_s ?_ | refine v_o ?_ | refine v_on ?_ | refine v_og ?_ | refine v_q ?_ | refine v_sr ?_ | refine v_k ?_ | refine m_nil ?_)
      (refine awp_ret ?_; (repeat (first | refine then_r ?_ | refine block_r ?_ | refine loop_r ?_)); apply ret_ok (.inr rfl); (focus exact rfl))
      rw [← hf]
      rfl


end Go.Proofs.Ytkomkhigcdkpdaa
