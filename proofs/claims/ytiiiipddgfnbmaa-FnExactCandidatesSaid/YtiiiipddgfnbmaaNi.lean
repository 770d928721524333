/- The program's Candidates, and its law. No condition. -/
import Derived.Test.YtiiiipddgfnbmaaNh
namespace Go.Proofs.Ytiiiipddgfnbmaa
open Go
attribute [local irreducible] awp awpL awpQL awpQ awpM pWalk Qt AC thenQ blockQ loopQ OpTo
set_option linter.unusedVariables false
set_option linter.unusedSimpArgs false
set_option maxHeartbeats 2000000
attribute [local irreducible] HC

theorem impl_Candidates1 {s o : Int} {nx ou ws os : List (List Int)} (h1 : RowsOk nx) (h3 : RowsOk ws) : AC Try.prog 42 [.ptr (mach s o nx ou), .ptr (rows ws), .ptr (rows os)] (.bool (suiteOk nx.length ws && decide (ws.length = os.length))) := by
  have e1 := impl_isSuite (s := s) (o := o) (nx := nx) (ou := ou) (ws := ws) h1.2 h3
  generalize suiteOk nx.length ws = b at *
  cases b with
  | false =>
    refine ac_intro tabIs _ Try.func42 rfl rfl Try.ntmps42 rfl rfl fun w0 ok0 => ?_
    repeat (first | refine awp_seq ?_ | refine then_n ?_ | refine then_r ?_ | refine then_x ?_ | refine block_n ?_ | refine block_r ?_ | refine block_x ?_ | refine u_y ?_ | refine loop_r ?_ | refine loop_x ?_ | refine awp_region ?_ | refine awpL_nil ?_ | refine awpQL_nil ?_ | refine awp_block ?_ | refine awp_skip ?_ | refine awp_exit ?_ | refine awp_label ?_ | refine u_dT ?_ | refine u_d ?_ | ((first | apply c_l | apply c_q | apply c_lr | apply c_qr); (iterate 2 exact rfl); (focus (first | exact e1)); (iterate 2 exact rfl)) | (apply y_c; (iterate 4 exact rfl); (focus (first | exact e1)); (iterate 2 exact rfl)) | refine u_l ?_ | refine u_o ?_ | refine u_q ?_ | refine u_lr ?_ | refine u_qr ?_ | refine u_ls ?_ | refine u_qs ?_ | refine u_t ?_ | refine u_f ?_ | refine y_s ?_ | refine v_o ?_ | refine v_on ?_ | refine v_og ?_ | refine y_q ?_ | refine y_sr ?_ | refine y_k ?_ | refine m_nil ?_)
    (refine awp_ret ?_; (repeat (first | refine then_r ?_ | refine block_r ?_ | refine loop_r ?_)); apply ret_ok (.inr rfl); (focus exact rfl))
    rfl
  | true =>
    refine ac_intro tabIs _ Try.func42 rfl rfl Try.ntmps42 rfl rfl fun w0 ok0 => ?_
    repeat (first | refine awp_seq ?_ | refine then_n ?_ | refine then_r ?_ | refine then_x ?_ | refine block_n ?_ | refine block_r ?_ | refine block_x ?_ | refine u_y ?_ | refine loop_r ?_ | refine loop_x ?_ | refine awp_region ?_ | refine awpL_nil ?_ | refine awpQL_nil ?_ | refine awp_block ?_ | refine awp_skip ?_ | refine awp_exit ?_ | refine awp_label ?_ | refine u_dT ?_ | refine u_d ?_ | ((first | apply c_l | apply c_q | apply c_lr | apply c_qr); (iterate 2 exact rfl); (focus (first | exact e1)); (iterate 2 exact rfl)) | (apply y_c; (iterate 4 exact rfl); (focus (first | exact e1)); (iterate 2 exact rfl)) | refine u_l ?_ | refine u_o ?_ | refine u_q ?_ | refine u_lr ?_ | refine u_qr ?_ | refine u_ls ?_ | refine u_qs ?_ | refine u_t ?_ | refine u_f ?_ | refine y_s ?_ | refine v_o ?_ | refine v_on ?_ | refine v_og ?_ | refine y_q ?_ | refine y_sr ?_ | refine y_k ?_ | refine m_nil ?_)
    (refine awp_ret ?_; (repeat (first | refine then_r ?_ | refine block_r ?_ | refine loop_r ?_)); apply ret_ok (.inr rfl); (focus exact rfl))
    simp [eq_comm]
    exact ⟨fun h => by omega, fun h => by omega⟩

theorem impl_CandidatesH {s o : Int} {nx ou ws os : List (List Int)} (h1 : RowsOk nx) (h2 : RowsOk ou) (h3 : RowsOk ws) (h4 : RowsOk os) :
    HC Try.prog 23 [.d (mach s o nx ou), .d (rows ws), .d (rows os)] [] (.tup [.own 30000, .d (.int .i64 (canD s o nx ou ws os).2)]) [(30000, .arr 2 1 ((canD s o nx ou ws os).1.map (.int .i64)))] := by
  have e1 := impl_code (s := s) (o := o) (g := 42) (cap := [.ptr (mach s o nx ou), .ptr (rows ws), .ptr (rows os)]) h1 h2 fun _ => impl_Candidates1 (s := s) (o := o) (ou := ou) (os := os) h1 h3
  have e1c : canD s o nx ou ws os = if machOk s o nx ou then (if suiteOk nx.length ws && decide (ws.length = os.length) then (canL s o nx ou ws os (mutN s o nx.length).toNat, 0) else ([], 2)) else ([], 1) := by
    unfold canD
    by_cases a : suiteOk nx.length ws = true <;> by_cases b : ws.length = os.length <;> simp [a, b]
  rw [e1c]
  by_cases hv : machOk s o nx ou = true
  · rw [if_pos hv] at e1 ⊢
    by_cases hr : (suiteOk nx.length ws && decide (ws.length = os.length)) = true
    · rw [if_pos hr] at e1 ⊢
      simp only [Bool.and_eq_true, decide_eq_true_eq] at hr
      obtain ⟨hr, hl⟩ := hr
      obtain ⟨q1, q2⟩ := suite_of hr
      have m := mv_of hv
      have hb := mutN_bounds m.s1 m.o1 m.n1.2
      have e2 := impl_Candidates2 m ⟨q1, q2⟩ h4 hl
      have e3 := impl_mutants (ou := ou) m.s1 m.o1 m.n1.2
      have h0 : canL s o nx ou ws os 0 = if ansB nx ou ws os then [-1] else [] := rfl
      cases ha : ansB nx ou ws os with
      | true =>
        rw [ha] at e2 h0
        refine hc_intro tabIs _ Try.func23 rfl rfl Try.ntmps23 rfl rfl rfl ?_ fun w0 ok0 XM XA anc => ?_
        · exact likeIn_nil
        repeat (first | refine v_w (t := 19) ?_ | refine awp_seq ?_ | refine then_n ?_ | refine then_r ?_ | refine then_x ?_ | refine block_n ?_ | refine block_r ?_ | refine block_x ?_ | refine u_y ?_ | refine loop_r ?_ | refine loop_x ?_ | refine awp_region ?_ | refine awpL_nil ?_ | refine awpQL_nil ?_ | refine awp_block ?_ | refine awp_skip ?_ | refine awp_exit ?_ | refine awp_label ?_ | refine u_dT ?_ | refine u_d ?_ | refine u_w (t := 19) ?_ | ((first | apply c_l | apply c_q | apply c_lr | apply c_qr); (iterate 2 exact rfl); (focus (first | exact e1 | exact e2 | exact e3)); (iterate 2 exact rfl)) | (apply y_c; (iterate 4 exact rfl); (focus (first | exact e1 | exact e2 | exact e3)); (iterate 2 exact rfl)) | refine u_l ?_ | refine u_o ?_ | refine u_q ?_ | refine u_lr ?_ | refine u_qr ?_ | refine u_ls ?_ | refine u_qs ?_ | refine u_t ?_ | refine u_f ?_ | refine y_s ?_ | refine v_o ?_ | refine v_on ?_ | refine v_og ?_ | refine y_q ?_ | refine y_sr ?_ | refine y_k ?_ | refine m_nil ?_)
        refine awp_loop (fun k : Nat => (k : Int) ≤ mutN s o nx.length) (fun k => [(3, .d (.ptr (mach s o nx ou))), (9, .d (.fn 43 [.ptr (rows ws), .ptr (rows os)])), (10, .own 19), (27, .d (.int .i64 (mutN s o nx.length))), (28, .d (.int .i64 k))]) (fun k => [(19, .arr 2 1 ((canL s o nx ou ws os k).map (.int .i64)))]) (fun k => (mutN s o nx.length).toNat - k) 0 (by omega) ?_ (by rw [h0]; rfl) ?_
        · ((repeat (first | exact trivial | (refine ⟨?_, ?_⟩; (focus (first | rfl | (simp [lk, argsS, args0]; done) | (simp [lk, argsS, args0]; omega)))))))
        · intro k hk
          have hkl := canL_len s o nx ou ws os k
          have hml : ((canL s o nx ou ws os k).map (D.int .i64)).length ≤ 1000 := by simp; omega
          by_cases hlt : (k : Int) < mutN s o nx.length
          · have f2 := impl_mutant m (k := (k : Int)) (by omega)
            obtain ⟨m', hl'⟩ := mv_mut m (k := (k : Int)) (by omega)
            have f3 := impl_Candidates2 m' (by rw [hl']; exact ⟨q1, q2⟩) h4 hl
            have hstep : canL s o nx ou ws os (k + 1) = canL s o nx ou ws os k ++ if ansB (mutX s o nx ou k).1 (mutX s o nx ou k).2 ws os then [(k : Int)] else [] := rfl
            cases hb2 : ansB (mutX s o nx ou k).1 (mutX s o nx ou k).2 ws os with
            | true =>
              rw [hb2] at f3 hstep
              simp only [if_true] at hstep
              generalize mutX s o nx ou k = X at *
              repeat (first | refine awp_seq ?_ | refine then_n ?_ | refine then_r ?_ | refine then_x ?_ | refine block_n ?_ | refine block_r ?_ | refine block_x ?_ | refine u_y ?_ | refine loop_r ?_ | refine loop_x ?_ | refine awp_region ?_ | refine awpL_nil ?_ | refine awpQL_nil ?_ | refine awp_block ?_ | refine awp_skip ?_ | refine awp_exit ?_ | refine awp_label ?_ | refine u_dT ?_ | refine u_d ?_ | ((first | apply c_l | apply c_q | apply c_lr | apply c_qr); (iterate 2 exact rfl); (focus (first | exact f2 | exact f3)); (iterate 2 exact rfl)) | (apply y_c; (iterate 4 exact rfl); (focus (first | exact f2 | exact f3)); (iterate 2 exact rfl)) | refine u_l ?_ | refine u_o ?_ | refine u_q ?_ | refine u_lr ?_ | refine u_qr ?_ | refine u_ls ?_ | refine u_qs ?_ | refine u_t ?_ | refine u_f ?_ | refine y_s ?_ | refine v_o ?_ | refine v_on ?_ | refine v_og ?_ | refine y_q ?_ | refine y_sr ?_ | refine y_k ?_ | refine m_nil ?_)
              refine loop_n (k + 1) (by omega) ?_ ?_ (by omega)
              · ((repeat (first | exact trivial | (refine ⟨?_, ?_⟩; (focus (first | rfl | (simp [lk, argsS, args0]; done) | (simp [lk, argsS, args0]; omega)))))))
              · rw [hstep, List.map_append]; rfl
            | false =>
              rw [hb2] at f3 hstep
              simp only [Bool.false_eq_true, if_false, List.append_nil] at hstep
              generalize mutX s o nx ou k = X at *
              repeat (first | refine awp_seq ?_ | refine then_n ?_ | refine then_r ?_ | refine then_x ?_ | refine block_n ?_ | refine block_r ?_ | refine block_x ?_ | refine u_y ?_ | refine loop_r ?_ | refine loop_x ?_ | refine awp_region ?_ | refine awpL_nil ?_ | refine awpQL_nil ?_ | refine awp_block ?_ | refine awp_skip ?_ | refine awp_exit ?_ | refine awp_label ?_ | refine u_dT ?_ | refine u_d ?_ | ((first | apply c_l | apply c_q | apply c_lr | apply c_qr); (iterate 2 exact rfl); (focus (first | exact f2 | exact f3)); (iterate 2 exact rfl)) | (apply y_c; (iterate 4 exact rfl); (focus (first | exact f2 | exact f3)); (iterate 2 exact rfl)) | refine u_l ?_ | refine u_o ?_ | refine u_q ?_ | refine u_lr ?_ | refine u_qr ?_ | refine u_ls ?_ | refine u_qs ?_ | refine u_t ?_ | refine u_f ?_ | refine y_s ?_ | refine v_o ?_ | refine v_on ?_ | refine v_og ?_ | refine y_q ?_ | refine y_sr ?_ | refine y_k ?_ | refine m_nil ?_)
              refine loop_n (k + 1) (by omega) ?_ ?_ (by omega)
              · ((repeat (first | exact trivial | (refine ⟨?_, ?_⟩; (focus (first | rfl | (simp [lk, argsS, args0]; done) | (simp [lk, argsS, args0]; omega)))))))
              · rw [hstep]
          · have hk' : k = (mutN s o nx.length).toNat := by omega
            subst hk'
            repeat (first | refine awp_seq ?_ | refine then_n ?_ | refine then_r ?_ | refine then_x ?_ | refine block_n ?_ | refine block_r ?_ | refine block_x ?_ | refine u_y ?_ | refine loop_r ?_ | refine loop_x ?_ | refine awp_region ?_ | refine awpL_nil ?_ | refine awpQL_nil ?_ | refine awp_block ?_ | refine awp_skip ?_ | refine awp_exit ?_ | refine awp_label ?_ | refine u_dT ?_ | refine u_d ?_ | refine u_l ?_ | refine u_o ?_ | refine u_q ?_ | refine u_lr ?_ | refine u_qr ?_ | refine u_ls ?_ | refine u_qs ?_ | refine u_t ?_ | refine u_f ?_ | refine y_s ?_ | refine v_o ?_ | refine v_on ?_ | refine v_og ?_ | refine y_q ?_ | refine y_sr ?_ | refine y_k ?_ | refine m_nil ?_)
            (refine awp_ret ?_; (repeat (first | refine then_r ?_ | refine block_r ?_ | refine loop_r ?_)); refine u_rH [(19, 30000)] ?_ ?_)
            · rfl
            · rfl
      | false =>
        rw [ha] at e2 h0
        refine hc_intro tabIs _ Try.func23 rfl rfl Try.ntmps23 rfl rfl rfl ?_ fun w0 ok0 XM XA anc => ?_
        · exact likeIn_nil
        repeat (first | refine v_w (t := 19) ?_ | refine awp_seq ?_ | refine then_n ?_ | refine then_r ?_ | refine then_x ?_ | refine block_n ?_ | refine block_r ?_ | refine block_x ?_ | refine u_y ?_ | refine loop_r ?_ | refine loop_x ?_ | refine awp_region ?_ | refine awpL_nil ?_ | refine awpQL_nil ?_ | refine awp_block ?_ | refine awp_skip ?_ | refine awp_exit ?_ | refine awp_label ?_ | refine u_dT ?_ | refine u_d ?_ | refine u_w (t := 19) ?_ | ((first | apply c_l | apply c_q | apply c_lr | apply c_qr); (iterate 2 exact rfl); (focus (first | exact e1 | exact e2 | exact e3)); (iterate 2 exact rfl)) | (apply y_c; (iterate 4 exact rfl); (focus (first | exact e1 | exact e2 | exact e3)); (iterate 2 exact rfl)) | refine u_l ?_ | refine u_o ?_ | refine u_q ?_ | refine u_lr ?_ | refine u_qr ?_ | refine u_ls ?_ | refine u_qs ?_ | refine u_t ?_ | refine u_f ?_ | refine y_s ?_ | refine v_o ?_ | refine v_on ?_ | refine v_og ?_ | refine y_q ?_ | refine y_sr ?_ | refine y_k ?_ | refine m_nil ?_)
        refine awp_loop (fun k : Nat => (k : Int) ≤ mutN s o nx.length) (fun k => [(3, .d (.ptr (mach s o nx ou))), (9, .d (.fn 43 [.ptr (rows ws), .ptr (rows os)])), (10, .own 19), (27, .d (.int .i64 (mutN s o nx.length))), (28, .d (.int .i64 k))]) (fun k => [(19, .arr 2 1 ((canL s o nx ou ws os k).map (.int .i64)))]) (fun k => (mutN s o nx.length).toNat - k) 0 (by omega) ?_ (by rw [h0]; rfl) ?_
        · ((repeat (first | exact trivial | (refine ⟨?_, ?_⟩; (focus (first | rfl | (simp [lk, argsS, args0]; done) | (simp [lk, argsS, args0]; omega)))))))
        · intro k hk
          have hkl := canL_len s o nx ou ws os k
          have hml : ((canL s o nx ou ws os k).map (D.int .i64)).length ≤ 1000 := by simp; omega
          by_cases hlt : (k : Int) < mutN s o nx.length
          · have f2 := impl_mutant m (k := (k : Int)) (by omega)
            obtain ⟨m', hl'⟩ := mv_mut m (k := (k : Int)) (by omega)
            have f3 := impl_Candidates2 m' (by rw [hl']; exact ⟨q1, q2⟩) h4 hl
            have hstep : canL s o nx ou ws os (k + 1) = canL s o nx ou ws os k ++ if ansB (mutX s o nx ou k).1 (mutX s o nx ou k).2 ws os then [(k : Int)] else [] := rfl
            cases hb2 : ansB (mutX s o nx ou k).1 (mutX s o nx ou k).2 ws os with
            | true =>
              rw [hb2] at f3 hstep
              simp only [if_true] at hstep
              generalize mutX s o nx ou k = X at *
              repeat (first | refine awp_seq ?_ | refine then_n ?_ | refine then_r ?_ | refine then_x ?_ | refine block_n ?_ | refine block_r ?_ | refine block_x ?_ | refine u_y ?_ | refine loop_r ?_ | refine loop_x ?_ | refine awp_region ?_ | refine awpL_nil ?_ | refine awpQL_nil ?_ | refine awp_block ?_ | refine awp_skip ?_ | refine awp_exit ?_ | refine awp_label ?_ | refine u_dT ?_ | refine u_d ?_ | ((first | apply c_l | apply c_q | apply c_lr | apply c_qr); (iterate 2 exact rfl); (focus (first | exact f2 | exact f3)); (iterate 2 exact rfl)) | (apply y_c; (iterate 4 exact rfl); (focus (first | exact f2 | exact f3)); (iterate 2 exact rfl)) | refine u_l ?_ | refine u_o ?_ | refine u_q ?_ | refine u_lr ?_ | refine u_qr ?_ | refine u_ls ?_ | refine u_qs ?_ | refine u_t ?_ | refine u_f ?_ | refine y_s ?_ | refine v_o ?_ | refine v_on ?_ | refine v_og ?_ | refine y_q ?_ | refine y_sr ?_ | refine y_k ?_ | refine m_nil ?_)
              refine loop_n (k + 1) (by omega) ?_ ?_ (by omega)
              · ((repeat (first | exact trivial | (refine ⟨?_, ?_⟩; (focus (first | rfl | (simp [lk, argsS, args0]; done) | (simp [lk, argsS, args0]; omega)))))))
              · rw [hstep, List.map_append]; rfl
            | false =>
              rw [hb2] at f3 hstep
              simp only [Bool.false_eq_true, if_false, List.append_nil] at hstep
              generalize mutX s o nx ou k = X at *
              repeat (first | refine awp_seq ?_ | refine then_n ?_ | refine then_r ?_ | refine then_x ?_ | refine block_n ?_ | refine block_r ?_ | refine block_x ?_ | refine u_y ?_ | refine loop_r ?_ | refine loop_x ?_ | refine awp_region ?_ | refine awpL_nil ?_ | refine awpQL_nil ?_ | refine awp_block ?_ | refine awp_skip ?_ | refine awp_exit ?_ | refine awp_label ?_ | refine u_dT ?_ | refine u_d ?_ | ((first | apply c_l | apply c_q | apply c_lr | apply c_qr); (iterate 2 exact rfl); (focus (first | exact f2 | exact f3)); (iterate 2 exact rfl)) | (apply y_c; (iterate 4 exact rfl); (focus (first | exact f2 | exact f3)); (iterate 2 exact rfl)) | refine u_l ?_ | refine u_o ?_ | refine u_q ?_ | refine u_lr ?_ | refine u_qr ?_ | refine u_ls ?_ | refine u_qs ?_ | refine u_t ?_ | refine u_f ?_ | refine y_s ?_ | refine v_o ?_ | refine v_on ?_ | refine v_og ?_ | refine y_q ?_ | refine y_sr ?_ | refine y_k ?_ | refine m_nil ?_)
              refine loop_n (k + 1) (by omega) ?_ ?_ (by omega)
              · ((repeat (first | exact trivial | (refine ⟨?_, ?_⟩; (focus (first | rfl | (simp [lk, argsS, args0]; done) | (simp [lk, argsS, args0]; omega)))))))
              · rw [hstep]
          · have hk' : k = (mutN s o nx.length).toNat := by omega
            subst hk'
            repeat (first | refine awp_seq ?_ | refine then_n ?_ | refine then_r ?_ | refine then_x ?_ | refine block_n ?_ | refine block_r ?_ | refine block_x ?_ | refine u_y ?_ | refine loop_r ?_ | refine loop_x ?_ | refine awp_region ?_ | refine awpL_nil ?_ | refine awpQL_nil ?_ | refine awp_block ?_ | refine awp_skip ?_ | refine awp_exit ?_ | refine awp_label ?_ | refine u_dT ?_ | refine u_d ?_ | refine u_l ?_ | refine u_o ?_ | refine u_q ?_ | refine u_lr ?_ | refine u_qr ?_ | refine u_ls ?_ | refine u_qs ?_ | refine u_t ?_ | refine u_f ?_ | refine y_s ?_ | refine v_o ?_ | refine v_on ?_ | refine v_og ?_ | refine y_q ?_ | refine y_sr ?_ | refine y_k ?_ | refine m_nil ?_)
            (refine awp_ret ?_; (repeat (first | refine then_r ?_ | refine block_r ?_ | refine loop_r ?_)); refine u_rH [(19, 30000)] ?_ ?_)
            · rfl
            · rfl
    · rw [if_neg hr] at e1 ⊢
      refine hc_intro tabIs _ Try.func23 rfl rfl Try.ntmps23 rfl rfl rfl ?_ fun w0 ok0 XM XA anc => ?_
      · exact likeIn_nil
      repeat (first | refine awp_seq ?_ | refine then_n ?_ | refine then_r ?_ | refine then_x ?_ | refine block_n ?_ | refine block_r ?_ | refine block_x ?_ | refine u_y ?_ | refine loop_r ?_ | refine loop_x ?_ | refine awp_region ?_ | refine awpL_nil ?_ | refine awpQL_nil ?_ | refine awp_block ?_ | refine awp_skip ?_ | refine awp_exit ?_ | refine awp_label ?_ | refine u_dT ?_ | refine u_d ?_ | ((first | apply c_l | apply c_q | apply c_lr | apply c_qr); (iterate 2 exact rfl); (focus (first | exact e1)); (iterate 2 exact rfl)) | (apply y_c; (iterate 4 exact rfl); (focus (first | exact e1)); (iterate 2 exact rfl)) | refine u_l ?_ | refine u_o ?_ | refine u_q ?_ | refine u_lr ?_ | refine u_qr ?_ | refine u_ls ?_ | refine u_qs ?_ | refine u_t ?_ | refine u_f ?_ | refine y_s ?_ | refine v_o ?_ | refine v_on ?_ | refine v_og ?_ | refine y_q ?_ | refine y_sr ?_ | refine y_k ?_ | refine m_nil ?_)
      refine awp_nilSlot 6 300 2 1 rfl rfl rfl ?_
      (refine awp_ret ?_; (repeat (first | refine then_r ?_ | refine block_r ?_ | refine loop_r ?_)); refine u_rH [(300, 30000)] ?_ ?_)
      · rfl
      · rfl
  · rw [if_neg hv] at e1 ⊢
    refine hc_intro tabIs _ Try.func23 rfl rfl Try.ntmps23 rfl rfl rfl ?_ fun w0 ok0 XM XA anc => ?_
    · exact likeIn_nil
    repeat (first | refine awp_seq ?_ | refine then_n ?_ | refine then_r ?_ | refine then_x ?_ | refine block_n ?_ | refine block_r ?_ | refine block_x ?_ | refine u_y ?_ | refine loop_r ?_ | refine loop_x ?_ | refine awp_region ?_ | refine awpL_nil ?_ | refine awpQL_nil ?_ | refine awp_block ?_ | refine awp_skip ?_ | refine awp_exit ?_ | refine awp_label ?_ | refine u_dT ?_ | refine u_d ?_ | ((first | apply c_l | apply c_q | apply c_lr | apply c_qr); (iterate 2 exact rfl); (focus (first | exact e1)); (iterate 2 exact rfl)) | (apply y_c; (iterate 4 exact rfl); (focus (first | exact e1)); (iterate 2 exact rfl)) | refine u_l ?_ | refine u_o ?_ | refine u_q ?_ | refine u_lr ?_ | refine u_qr ?_ | refine u_ls ?_ | refine u_qs ?_ | refine u_t ?_ | refine u_f ?_ | refine y_s ?_ | refine v_o ?_ | refine v_on ?_ | refine v_og ?_ | refine y_q ?_ | refine y_sr ?_ | refine y_k ?_ | refine m_nil ?_)
    refine awp_nilSlot 6 300 2 1 rfl rfl rfl ?_
    (refine awp_ret ?_; (repeat (first | refine then_r ?_ | refine block_r ?_ | refine loop_r ?_)); refine u_rH [(300, 30000)] ?_ ?_)
    · rfl
    · rfl

theorem canD_len (s o : Int) (nx ou ws os : List (List Int)) : (canD s o nx ou ws os).1.length ≤ 1000 := by
  unfold canD
  split
  · rename_i hv
    have m := mv_of hv
    have hb := mutN_bounds m.s1 m.o1 m.n1.2
    have := canL_len s o nx ou ws os (mutN s o nx.length).toNat
    split
    · split
      · show (canL s o nx ou ws os (mutN s o nx.length).toNat).length ≤ 1000
        omega
      · simp
    · simp
  · simp

theorem law_ExactCandidates {s o : Int} {nx ou ws os : List (List Int)} (g1 : I64 s) (g2 : I64 o) (h1 : RowsOk nx) (h2 : RowsOk ou) (h5 : RowsOk ws) (h6 : RowsOk os) : AC Try.prog 5 [mach s o nx ou, rows ws, rows os] (.bool true) := by
  have e1 := laws_szMachine (s := s) (o := o) (left := 1048576) h1 h2 (by omega)
  have hok := szM_ok (nx := nx) (ou := ou) (left := 1048576) (by omega)
  generalize szM nx ou 1048576 = left1 at *
  obtain ⟨b1, b2, b3⟩ := hok
  by_cases hc : left1 < 0
  · unfold mach at *
    refine ac_intro tabIs _ Try.func5 rfl rfl Try.ntmps5 rfl rfl fun w0 ok0 => ?_
    repeat (first | refine awp_seq ?_ | refine then_n ?_ | refine then_r ?_ | refine then_x ?_ | refine block_n ?_ | refine block_r ?_ | refine block_x ?_ | refine u_y ?_ | refine loop_r ?_ | refine loop_x ?_ | refine awp_region ?_ | refine awpL_nil ?_ | refine awpQL_nil ?_ | refine awp_block ?_ | refine awp_skip ?_ | refine awp_exit ?_ | refine awp_label ?_ | refine u_dT ?_ | refine u_d ?_ | ((first | apply c_l | apply c_q | apply c_lr | apply c_qr); (iterate 2 exact rfl); (focus (first | exact e1)); (iterate 2 exact rfl)) | (apply y_c; (iterate 4 exact rfl); (focus (first | exact e1)); (iterate 2 exact rfl)) | refine u_l ?_ | refine u_o ?_ | refine u_q ?_ | refine u_lr ?_ | refine u_qr ?_ | refine u_ls ?_ | refine u_qs ?_ | refine u_t ?_ | refine u_f ?_ | refine y_s ?_ | refine v_o ?_ | refine v_on ?_ | refine v_og ?_ | refine y_q ?_ | refine y_sr ?_ | refine y_k ?_ | refine m_nil ?_)
    (refine awp_ret ?_; (repeat (first | refine then_r ?_ | refine block_r ?_ | refine loop_r ?_)); apply ret_ok (.inr rfl); (focus exact rfl))
    rfl
  · obtain ⟨⟨a1, a2⟩, a3, a4⟩ := b3 (by omega)
    have a1' : nx.length ≤ 1048576 := by omega
    have a2' : ∀ ns ∈ nx, ns.length ≤ 1048576 := fun ns h => by have := a2 ns h; omega
    have a3' : ou.length ≤ 1048576 := by omega
    have a4' : ∀ ns ∈ ou, ns.length ≤ 1048576 := fun ns h => by have := a4 ns h; omega
    have e2 := laws_szInt64SS (nss := ws) (left := left1) h5 (by omega)
    have hok2 := szR_ok (nss := ws) (left := left1) (by omega)
    generalize szR ws left1 = left2 at *
    obtain ⟨c0, c3⟩ := hok2
    by_cases hd : left2 < 0
    · unfold mach at *
      refine ac_intro tabIs _ Try.func5 rfl rfl Try.ntmps5 rfl rfl fun w0 ok0 => ?_
      repeat (first | refine awp_seq ?_ | refine then_n ?_ | refine then_r ?_ | refine then_x ?_ | refine block_n ?_ | refine block_r ?_ | refine block_x ?_ | refine u_y ?_ | refine loop_r ?_ | refine loop_x ?_ | refine awp_region ?_ | refine awpL_nil ?_ | refine awpQL_nil ?_ | refine awp_block ?_ | refine awp_skip ?_ | refine awp_exit ?_ | refine awp_label ?_ | refine u_dT ?_ | refine u_d ?_ | ((first | apply c_l | apply c_q | apply c_lr | apply c_qr); (iterate 2 exact rfl); (focus (first | exact e1 | exact e2)); (iterate 2 exact rfl)) | (apply y_c; (iterate 4 exact rfl); (focus (first | exact e1 | exact e2)); (iterate 2 exact rfl)) | refine u_l ?_ | refine u_o ?_ | refine u_q ?_ | refine u_lr ?_ | refine u_qr ?_ | refine u_ls ?_ | refine u_qs ?_ | refine u_t ?_ | refine u_f ?_ | refine y_s ?_ | refine v_o ?_ | refine v_on ?_ | refine v_og ?_ | refine y_q ?_ | refine y_sr ?_ | refine y_k ?_ | refine m_nil ?_)
      (refine awp_ret ?_; (repeat (first | refine then_r ?_ | refine block_r ?_ | refine loop_r ?_)); apply ret_ok (.inr rfl); (focus exact rfl))
      rfl
    · obtain ⟨c1, c2⟩ := c3 (by omega)
      have c1' : ws.length ≤ 1048576 := by omega
      have c2' : ∀ ns ∈ ws, ns.length ≤ 1048576 := fun ns h => by have := c2 ns h; omega
      have e3 := laws_szInt64SS (nss := os) (left := left2) h6 (by omega)
      have hok3 := szR_ok (nss := os) (left := left2) (by omega)
      generalize szR os left2 = left3 at *
      obtain ⟨d0, d4⟩ := hok3
      by_cases hf : left3 < 0
      · unfold mach at *
        refine ac_intro tabIs _ Try.func5 rfl rfl Try.ntmps5 rfl rfl fun w0 ok0 => ?_
        repeat (first | refine awp_seq ?_ | refine then_n ?_ | refine then_r ?_ | refine then_x ?_ | refine block_n ?_ | refine block_r ?_ | refine block_x ?_ | refine u_y ?_ | refine loop_r ?_ | refine loop_x ?_ | refine awp_region ?_ | refine awpL_nil ?_ | refine awpQL_nil ?_ | refine awp_block ?_ | refine awp_skip ?_ | refine awp_exit ?_ | refine awp_label ?_ | refine u_dT ?_ | refine u_d ?_ | ((first | apply c_l | apply c_q | apply c_lr | apply c_qr); (iterate 2 exact rfl); (focus (first | exact e1)); (iterate 2 exact rfl)) | (apply y_c; (iterate 4 exact rfl); (focus (first | exact e1)); (iterate 2 exact rfl)) | refine u_l ?_ | refine u_o ?_ | refine u_q ?_ | refine u_lr ?_ | refine u_qr ?_ | refine u_ls ?_ | refine u_qs ?_ | refine u_t ?_ | refine u_f ?_ | refine y_s ?_ | refine v_o ?_ | refine v_on ?_ | refine v_og ?_ | refine y_q ?_ | refine y_sr ?_ | refine y_k ?_ | refine m_nil ?_)
        (apply c_l; (iterate 2 exact rfl); (focus exact e2); (iterate 2 exact rfl))
        repeat (first | refine awp_seq ?_ | refine then_n ?_ | refine then_r ?_ | refine then_x ?_ | refine block_n ?_ | refine block_r ?_ | refine block_x ?_ | refine u_y ?_ | refine loop_r ?_ | refine loop_x ?_ | refine awp_region ?_ | refine awpL_nil ?_ | refine awpQL_nil ?_ | refine awp_block ?_ | refine awp_skip ?_ | refine awp_exit ?_ | refine awp_label ?_ | refine u_dT ?_ | refine u_d ?_ | refine u_l ?_ | refine u_o ?_ | refine u_q ?_ | refine u_lr ?_ | refine u_qr ?_ | refine u_ls ?_ | refine u_qs ?_ | refine u_t ?_ | refine u_f ?_ | refine y_s ?_ | refine v_o ?_ | refine v_on ?_ | refine v_og ?_ | refine y_q ?_ | refine y_sr ?_ | refine y_k ?_ | refine m_nil ?_)
        (apply c_l; (iterate 2 exact rfl); (focus exact e3); (iterate 2 exact rfl))
        repeat (first | refine awp_seq ?_ | refine then_n ?_ | refine then_r ?_ | refine then_x ?_ | refine block_n ?_ | refine block_r ?_ | refine block_x ?_ | refine u_y ?_ | refine loop_r ?_ | refine loop_x ?_ | refine awp_region ?_ | refine awpL_nil ?_ | refine awpQL_nil ?_ | refine awp_block ?_ | refine awp_skip ?_ | refine awp_exit ?_ | refine awp_label ?_ | refine u_dT ?_ | refine u_d ?_ | refine u_l ?_ | refine u_o ?_ | refine u_q ?_ | refine u_lr ?_ | refine u_qr ?_ | refine u_ls ?_ | refine u_qs ?_ | refine u_t ?_ | refine u_f ?_ | refine y_s ?_ | refine v_o ?_ | refine v_on ?_ | refine v_og ?_ | refine y_q ?_ | refine y_sr ?_ | refine y_k ?_ | refine m_nil ?_)
        (refine awp_ret ?_; (repeat (first | refine then_r ?_ | refine block_r ?_ | refine loop_r ?_)); apply ret_ok (.inr rfl); (focus exact rfl))
        rfl
      · obtain ⟨d1, d2⟩ := d4 (by omega)
        have d1' : os.length ≤ 1048576 := by omega
        have d2' : ∀ ns ∈ os, ns.length ≤ 1048576 := fun ns h => by have := d2 ns h; omega
        have t1 := laws_toMachine (s := s) (o := o) a1' a2' a3' a4'
        have t2 := laws_toInt64SS c1' c2'
        have t5 := laws_toInt64SS d1' d2'
        have t3 := laws_toMachineH (s := s) (o := o) a1' a2' a3' a4'
        have t4 := laws_toInt64SSH c1' c2'
        have t6 := laws_toInt64SSH d1' d2'
        have f1 := spec_Candidates (s := s) (o := o) h1 h2 h5 h6
        have f2 := impl_CandidatesH (s := s) (o := o) h1 h2 h5 h6
        have hbl := canD_len s o nx ou ws os
        have T1 := tot_boundN a2'
        have T2 := tot_boundN a4'
        have T3 := tot_boundN c2'
        have T4 := tot_boundN d2'
        have T1' : tot nx ≤ 1048576 * 1048576 := Nat.le_trans T1 (Nat.mul_le_mul_right _ a1')
        have T2' : tot ou ≤ 1048576 * 1048576 := Nat.le_trans T2 (Nat.mul_le_mul_right _ a3')
        have T3' : tot ws ≤ 1048576 * 1048576 := Nat.le_trans T3 (Nat.mul_le_mul_right _ c1')
        have T4' : tot os ≤ 1048576 * 1048576 := Nat.le_trans T4 (Nat.mul_le_mul_right _ d1')
        have m1 := laws_markMachine (s := s) (o := o) (nx := nx) (ou := ou) (k := 1) (by omega) (by omega) (by omega) (by omega)
        have m2 := laws_markInt64SS (nss := ws) (k := 1 + tot nx + tot ou) (by omega) (by omega) (by omega)
        have m4 := laws_markInt64SS (nss := os) (k := 1 + tot nx + tot ou + tot ws) (by omega) (by omega) (by omega)
        have f3' : HC Try.prog 23 ([D.agg [.int .i64 s, .int .i64 o, .lst ((rws nx).map D.lst), .lst ((rws ou).map D.lst)], .lst ((rws ws).map D.lst), .lst ((rws os).map D.lst)].map .d) [] (.tup [.own 30000, .d (.int .i64 (canD s o nx ou ws os).2)]) [(30000, .arr 2 1 ((canD s o nx ou ws os).1.map (.int .i64)))] := by
          rw [rws_dat, rws_dat, rws_dat, rws_dat]
          exact f2
        generalize canD s o nx ou ws os = z at *
        have m3 := laws_markInt64S (xs := z.1) (k := 1) (by omega) (by omega)
        have d3 := laws_heldInt64S (n := z.1.length) (k := 1) (by omega) (by omega)
        have q1 : AC Try.prog 17 [ints z.1, ints z.1] (.bool true) := by have := laws_eqInt64S (a := z.1) (b := z.1) (by omega) (by omega); simpa using this
        have q3 : AC Try.prog 10 [.agg [.int .i64 s, .int .i64 o, .lst ((rws nx).map D.lst), .lst ((rws ou).map D.lst)], mach s o nx ou] (.bool true) := by
          have := laws_eqMachine (s := s) (o := o) (s' := s) (o' := o) h1 h2 h1 h2
          rw [rws_dat, rws_dat]
          simp only [decide_true, Bool.and_self, Bool.and_true] at this
          exact this
        have q4 : AC Try.prog 18 [.lst ((rws ws).map D.lst), rows ws] (.bool true) := by
          have := laws_eqInt64SS (a := ws) (b := ws) h5 h5
          rw [rws_dat]
          simpa using this
        have q5 : AC Try.prog 18 [.lst ((rws os).map D.lst), rows os] (.bool true) := by
          have := laws_eqInt64SS (a := os) (b := os) h6 h6
          rw [rws_dat]
          simpa using this
        refine ac_intro tabIs _ Try.func5 rfl rfl Try.ntmps5 rfl rfl fun w0 ok0 => ?_
        repeat (first | refine awp_seq ?_ | refine then_n ?_ | refine then_r ?_ | refine then_x ?_ | refine block_n ?_ | refine block_r ?_ | refine block_x ?_ | refine u_y ?_ | refine loop_r ?_ | refine loop_x ?_ | refine awp_region ?_ | refine awpL_nil ?_ | refine awpQL_nil ?_ | refine awp_block ?_ | refine awp_skip ?_ | refine awp_exit ?_ | refine awp_label ?_ | refine u_dT ?_ | refine u_d ?_ | ((first | apply c_l | apply c_q | apply c_lr | apply c_qr); (iterate 2 exact rfl); (focus (first | exact e1)); (iterate 2 exact rfl)) | (apply y_c; (iterate 4 exact rfl); (focus (first | exact e1)); (iterate 2 exact rfl)) | refine u_l ?_ | refine u_o ?_ | refine u_q ?_ | refine u_lr ?_ | refine u_qr ?_ | refine u_ls ?_ | refine u_qs ?_ | refine u_t ?_ | refine u_f ?_ | refine y_s ?_ | refine v_o ?_ | refine v_on ?_ | refine v_og ?_ | refine y_q ?_ | refine y_sr ?_ | refine y_k ?_ | refine m_nil ?_)
        (apply c_l; (iterate 2 exact rfl); (focus exact e2); (iterate 2 exact rfl))
        repeat (first | refine awp_seq ?_ | refine then_n ?_ | refine then_r ?_ | refine then_x ?_ | refine block_n ?_ | refine block_r ?_ | refine block_x ?_ | refine u_y ?_ | refine loop_r ?_ | refine loop_x ?_ | refine awp_region ?_ | refine awpL_nil ?_ | refine awpQL_nil ?_ | refine awp_block ?_ | refine awp_skip ?_ | refine awp_exit ?_ | refine awp_label ?_ | refine u_dT ?_ | refine u_d ?_ | refine u_l ?_ | refine u_o ?_ | refine u_q ?_ | refine u_lr ?_ | refine u_qr ?_ | refine u_ls ?_ | refine u_qs ?_ | refine u_t ?_ | refine u_f ?_ | refine y_s ?_ | refine v_o ?_ | refine v_on ?_ | refine v_og ?_ | refine y_q ?_ | refine y_sr ?_ | refine y_k ?_ | refine m_nil ?_)
        (apply c_l; (iterate 2 exact rfl); (focus exact e3); (iterate 2 exact rfl))
        repeat (first | refine awp_seq ?_ | refine then_n ?_ | refine then_r ?_ | refine then_x ?_ | refine block_n ?_ | refine block_r ?_ | refine block_x ?_ | refine u_y ?_ | refine loop_r ?_ | refine loop_x ?_ | refine awp_region ?_ | refine awpL_nil ?_ | refine awpQL_nil ?_ | refine awp_block ?_ | refine awp_skip ?_ | refine awp_exit ?_ | refine awp_label ?_ | refine u_dT ?_ | refine u_d ?_ | refine u_l ?_ | refine u_o ?_ | refine u_q ?_ | refine u_lr ?_ | refine u_qr ?_ | refine u_ls ?_ | refine u_qs ?_ | refine u_t ?_ | refine u_f ?_ | refine y_s ?_ | refine v_o ?_ | refine v_on ?_ | refine v_og ?_ | refine y_q ?_ | refine y_sr ?_ | refine y_k ?_ | refine m_nil ?_)
        (apply c_l; (iterate 2 exact rfl); (focus exact t1); (iterate 2 exact rfl))
        repeat (first | refine awp_seq ?_ | refine then_n ?_ | refine then_r ?_ | refine then_x ?_ | refine block_n ?_ | refine block_r ?_ | refine block_x ?_ | refine u_y ?_ | refine loop_r ?_ | refine loop_x ?_ | refine awp_region ?_ | refine awpL_nil ?_ | refine awpQL_nil ?_ | refine awp_block ?_ | refine awp_skip ?_ | refine awp_exit ?_ | refine awp_label ?_ | refine u_dT ?_ | refine u_d ?_ | refine u_l ?_ | refine u_o ?_ | refine u_q ?_ | refine u_lr ?_ | refine u_qr ?_ | refine u_ls ?_ | refine u_qs ?_ | refine u_t ?_ | refine u_f ?_ | refine y_s ?_ | refine v_o ?_ | refine v_on ?_ | refine v_og ?_ | refine y_q ?_ | refine y_sr ?_ | refine y_k ?_ | refine m_nil ?_)
        (apply c_l; (iterate 2 exact rfl); (focus exact t2); (iterate 2 exact rfl))
        repeat (first | refine awp_seq ?_ | refine then_n ?_ | refine then_r ?_ | refine then_x ?_ | refine block_n ?_ | refine block_r ?_ | refine block_x ?_ | refine u_y ?_ | refine loop_r ?_ | refine loop_x ?_ | refine awp_region ?_ | refine awpL_nil ?_ | refine awpQL_nil ?_ | refine awp_block ?_ | refine awp_skip ?_ | refine awp_exit ?_ | refine awp_label ?_ | refine u_dT ?_ | refine u_d ?_ | refine u_l ?_ | refine u_o ?_ | refine u_q ?_ | refine u_lr ?_ | refine u_qr ?_ | refine u_ls ?_ | refine u_qs ?_ | refine u_t ?_ | refine u_f ?_ | refine y_s ?_ | refine v_o ?_ | refine v_on ?_ | refine v_og ?_ | refine y_q ?_ | refine y_sr ?_ | refine y_k ?_ | refine m_nil ?_)
        (apply c_l; (iterate 2 exact rfl); (focus exact t5); (iterate 2 exact rfl))
        repeat (first | refine awp_seq ?_ | refine then_n ?_ | refine then_r ?_ | refine then_x ?_ | refine block_n ?_ | refine block_r ?_ | refine block_x ?_ | refine u_y ?_ | refine loop_r ?_ | refine loop_x ?_ | refine awp_region ?_ | refine awpL_nil ?_ | refine awpQL_nil ?_ | refine awp_block ?_ | refine awp_skip ?_ | refine awp_exit ?_ | refine awp_label ?_ | refine u_dT ?_ | refine u_d ?_ | ((first | apply c_l | apply c_q | apply c_lr | apply c_qr); (iterate 2 exact rfl); (focus (first | exact f1)); (iterate 2 exact rfl)) | (apply y_c; (iterate 4 exact rfl); (focus (first | exact f1)); (iterate 2 exact rfl)) | refine u_l ?_ | refine u_o ?_ | refine u_q ?_ | refine u_lr ?_ | refine u_qr ?_ | refine u_ls ?_ | refine u_qs ?_ | refine u_t ?_ | refine u_f ?_ | refine y_s ?_ | refine v_o ?_ | refine v_on ?_ | refine v_og ?_ | refine y_q ?_ | refine y_sr ?_ | refine y_k ?_ | refine m_nil ?_)
        refine hcl [] [(30000, 500), (30001, 501)] t3 ?_
        repeat (first | refine awp_seq ?_ | refine then_n ?_ | refine then_r ?_ | refine then_x ?_ | refine block_n ?_ | refine block_r ?_ | refine block_x ?_ | refine u_y ?_ | refine loop_r ?_ | refine loop_x ?_ | refine awp_region ?_ | refine awpL_nil ?_ | refine awpQL_nil ?_ | refine awp_block ?_ | refine awp_skip ?_ | refine awp_exit ?_ | refine awp_label ?_ | refine u_dT ?_ | refine u_d ?_ | refine u_l ?_ | refine u_o ?_ | refine u_q ?_ | refine u_lr ?_ | refine u_qr ?_ | refine u_ls ?_ | refine u_qs ?_ | refine u_t ?_ | refine u_f ?_ | refine y_s ?_ | refine v_o ?_ | refine v_on ?_ | refine v_og ?_ | refine y_q ?_ | refine y_sr ?_ | refine y_k ?_ | refine m_nil ?_)
        refine hcl [] [(30000, 502)] t4 ?_
        repeat (first | refine awp_seq ?_ | refine then_n ?_ | refine then_r ?_ | refine then_x ?_ | refine block_n ?_ | refine block_r ?_ | refine block_x ?_ | refine u_y ?_ | refine loop_r ?_ | refine loop_x ?_ | refine awp_region ?_ | refine awpL_nil ?_ | refine awpQL_nil ?_ | refine awp_block ?_ | refine awp_skip ?_ | refine awp_exit ?_ | refine awp_label ?_ | refine u_dT ?_ | refine u_d ?_ | refine u_l ?_ | refine u_o ?_ | refine u_q ?_ | refine u_lr ?_ | refine u_qr ?_ | refine u_ls ?_ | refine u_qs ?_ | refine u_t ?_ | refine u_f ?_ | refine y_s ?_ | refine v_o ?_ | refine v_on ?_ | refine v_og ?_ | refine y_q ?_ | refine y_sr ?_ | refine y_k ?_ | refine m_nil ?_)
        refine hcl [] [(30000, 503)] t6 ?_
        repeat (first | refine awp_seq ?_ | refine then_n ?_ | refine then_r ?_ | refine then_x ?_ | refine block_n ?_ | refine block_r ?_ | refine block_x ?_ | refine u_y ?_ | refine loop_r ?_ | refine loop_x ?_ | refine awp_region ?_ | refine awpL_nil ?_ | refine awpQL_nil ?_ | refine awp_block ?_ | refine awp_skip ?_ | refine awp_exit ?_ | refine awp_label ?_ | refine u_dT ?_ | refine u_d ?_ | refine u_l ?_ | refine u_o ?_ | refine u_q ?_ | refine u_lr ?_ | refine u_qr ?_ | refine u_ls ?_ | refine u_qs ?_ | refine u_t ?_ | refine u_f ?_ | refine y_s ?_ | refine v_o ?_ | refine v_on ?_ | refine v_og ?_ | refine y_q ?_ | refine y_sr ?_ | refine y_k ?_ | refine m_nil ?_)
        refine hlend (xs := [.agg [.int .i64 s, .int .i64 o, .lst ((rws nx).map D.lst), .lst ((rws ou).map D.lst)], .lst ((rws ws).map D.lst), .lst ((rws os).map D.lst)]) (cap := []) [(30000, 504)] f3' ?_ ?_ ?_
        · intro p hp
          simp at hp
          subst hp
          intro x hx
          simp at hx
          obtain ⟨a, _, rfl⟩ := hx
          rfl
        · exact ⟨trivial, rfl, trivial⟩
        repeat (first | refine awp_seq ?_ | refine then_n ?_ | refine then_r ?_ | refine then_x ?_ | refine block_n ?_ | refine block_r ?_ | refine block_x ?_ | refine u_y ?_ | refine loop_r ?_ | refine loop_x ?_ | refine awp_region ?_ | refine awpL_nil ?_ | refine awpQL_nil ?_ | refine awp_block ?_ | refine awp_skip ?_ | refine awp_exit ?_ | refine awp_label ?_ | refine u_dT ?_ | refine u_d ?_ | ((first | apply c_l | apply c_q | apply c_lr | apply c_qr); (iterate 2 exact rfl); (focus (first | exact q1 | exact q3 | exact q4 | exact q5 | exact t1 | exact t2 | exact t5)); (iterate 2 exact rfl)) | (apply y_c; (iterate 4 exact rfl); (focus (first | exact q1 | exact q3 | exact q4 | exact q5 | exact t1 | exact t2 | exact t5)); (iterate 2 exact rfl)) | refine u_l ?_ | refine u_o ?_ | refine u_q ?_ | refine u_lr ?_ | refine u_qr ?_ | refine u_ls ?_ | refine u_qs ?_ | refine u_t ?_ | refine u_f ?_ | refine y_s ?_ | refine v_o ?_ | refine v_on ?_ | refine v_og ?_ | refine y_q ?_ | refine y_sr ?_ | refine y_k ?_ | refine m_nil ?_)
        refine hcl [(500, 10000), (501, 10001)] [(10000, 500), (10001, 501)] m1 ?_
        repeat (first | refine awp_seq ?_ | refine then_n ?_ | refine then_r ?_ | refine then_x ?_ | refine block_n ?_ | refine block_r ?_ | refine block_x ?_ | refine u_y ?_ | refine loop_r ?_ | refine loop_x ?_ | refine awp_region ?_ | refine awpL_nil ?_ | refine awpQL_nil ?_ | refine awp_block ?_ | refine awp_skip ?_ | refine awp_exit ?_ | refine awp_label ?_ | refine u_dT ?_ | refine u_d ?_ | refine u_l ?_ | refine u_o ?_ | refine u_q ?_ | refine u_lr ?_ | refine u_qr ?_ | refine u_ls ?_ | refine u_qs ?_ | refine u_t ?_ | refine u_f ?_ | refine y_s ?_ | refine v_o ?_ | refine v_on ?_ | refine v_og ?_ | refine y_q ?_ | refine y_sr ?_ | refine y_k ?_ | refine m_nil ?_)
        refine hcl [(502, 10000)] [(10000, 502)] m2 ?_
        repeat (first | refine awp_seq ?_ | refine then_n ?_ | refine then_r ?_ | refine then_x ?_ | refine block_n ?_ | refine block_r ?_ | refine block_x ?_ | refine u_y ?_ | refine loop_r ?_ | refine loop_x ?_ | refine awp_region ?_ | refine awpL_nil ?_ | refine awpQL_nil ?_ | refine awp_block ?_ | refine awp_skip ?_ | refine awp_exit ?_ | refine awp_label ?_ | refine u_dT ?_ | refine u_d ?_ | refine u_l ?_ | refine u_o ?_ | refine u_q ?_ | refine u_lr ?_ | refine u_qr ?_ | refine u_ls ?_ | refine u_qs ?_ | refine u_t ?_ | refine u_f ?_ | refine y_s ?_ | refine v_o ?_ | refine v_on ?_ | refine v_og ?_ | refine y_q ?_ | refine y_sr ?_ | refine y_k ?_ | refine m_nil ?_)
        refine hcl [(503, 10000)] [(10000, 503)] m4 ?_
        repeat (first | refine awp_seq ?_ | refine then_n ?_ | refine then_r ?_ | refine then_x ?_ | refine block_n ?_ | refine block_r ?_ | refine block_x ?_ | refine u_y ?_ | refine loop_r ?_ | refine loop_x ?_ | refine awp_region ?_ | refine awpL_nil ?_ | refine awpQL_nil ?_ | refine awp_block ?_ | refine awp_skip ?_ | refine awp_exit ?_ | refine awp_label ?_ | refine u_dT ?_ | refine u_d ?_ | ((first | apply c_l | apply c_q | apply c_lr | apply c_qr); (iterate 2 exact rfl); (focus (first | exact q1)); (iterate 2 exact rfl)) | (apply y_c; (iterate 4 exact rfl); (focus (first | exact q1)); (iterate 2 exact rfl)) | refine u_l ?_ | refine u_o ?_ | refine u_q ?_ | refine u_lr ?_ | refine u_qr ?_ | refine u_ls ?_ | refine u_qs ?_ | refine u_t ?_ | refine u_f ?_ | refine y_s ?_ | refine v_o ?_ | refine v_on ?_ | refine v_og ?_ | refine y_q ?_ | refine y_sr ?_ | refine y_k ?_ | refine m_nil ?_)
        refine hcl [(504, 10000)] [(10000, 504)] m3 ?_
        repeat (first | refine awp_seq ?_ | refine then_n ?_ | refine then_r ?_ | refine then_x ?_ | refine block_n ?_ | refine block_r ?_ | refine block_x ?_ | refine u_y ?_ | refine loop_r ?_ | refine loop_x ?_ | refine awp_region ?_ | refine awpL_nil ?_ | refine awpQL_nil ?_ | refine awp_block ?_ | refine awp_skip ?_ | refine awp_exit ?_ | refine awp_label ?_ | refine u_dT ?_ | refine u_d ?_ | ((first | apply c_l | apply c_q | apply c_lr | apply c_qr); (iterate 2 exact rfl); (focus (first | exact d3)); (iterate 2 exact rfl)) | (apply y_c; (iterate 4 exact rfl); (focus (first | exact d3)); (iterate 2 exact rfl)) | refine u_l ?_ | refine u_o ?_ | refine u_q ?_ | refine u_lr ?_ | refine u_qr ?_ | refine u_ls ?_ | refine u_qs ?_ | refine u_t ?_ | refine u_f ?_ | refine y_s ?_ | refine v_o ?_ | refine v_on ?_ | refine v_og ?_ | refine y_q ?_ | refine y_sr ?_ | refine y_k ?_ | refine m_nil ?_)
        (apply c_l; (iterate 2 exact rfl); (focus exact t1); (iterate 2 exact rfl))
        repeat (first | refine awp_seq ?_ | refine then_n ?_ | refine then_r ?_ | refine then_x ?_ | refine block_n ?_ | refine block_r ?_ | refine block_x ?_ | refine u_y ?_ | refine loop_r ?_ | refine loop_x ?_ | refine awp_region ?_ | refine awpL_nil ?_ | refine awpQL_nil ?_ | refine awp_block ?_ | refine awp_skip ?_ | refine awp_exit ?_ | refine awp_label ?_ | refine u_dT ?_ | refine u_d ?_ | refine u_l ?_ | refine u_o ?_ | refine u_q ?_ | refine u_lr ?_ | refine u_qr ?_ | refine u_ls ?_ | refine u_qs ?_ | refine u_t ?_ | refine u_f ?_ | refine y_s ?_ | refine v_o ?_ | refine v_on ?_ | refine v_og ?_ | refine y_q ?_ | refine y_sr ?_ | refine y_k ?_ | refine m_nil ?_)
        (apply c_l; (iterate 2 exact rfl); (focus exact t2); (iterate 2 exact rfl))
        repeat (first | refine awp_seq ?_ | refine then_n ?_ | refine then_r ?_ | refine then_x ?_ | refine block_n ?_ | refine block_r ?_ | refine block_x ?_ | refine u_y ?_ | refine loop_r ?_ | refine loop_x ?_ | refine awp_region ?_ | refine awpL_nil ?_ | refine awpQL_nil ?_ | refine awp_block ?_ | refine awp_skip ?_ | refine awp_exit ?_ | refine awp_label ?_ | refine u_dT ?_ | refine u_d ?_ | refine u_l ?_ | refine u_o ?_ | refine u_q ?_ | refine u_lr ?_ | refine u_qr ?_ | refine u_ls ?_ | refine u_qs ?_ | refine u_t ?_ | refine u_f ?_ | refine y_s ?_ | refine v_o ?_ | refine v_on ?_ | refine v_og ?_ | refine y_q ?_ | refine y_sr ?_ | refine y_k ?_ | refine m_nil ?_)
        (apply c_l; (iterate 2 exact rfl); (focus exact t5); (iterate 2 exact rfl))
        repeat (first | refine awp_seq ?_ | refine then_n ?_ | refine then_r ?_ | refine then_x ?_ | refine block_n ?_ | refine block_r ?_ | refine block_x ?_ | refine u_y ?_ | refine loop_r ?_ | refine loop_x ?_ | refine awp_region ?_ | refine awpL_nil ?_ | refine awpQL_nil ?_ | refine awp_block ?_ | refine awp_skip ?_ | refine awp_exit ?_ | refine awp_label ?_ | refine u_dT ?_ | refine u_d ?_ | refine u_l ?_ | refine u_o ?_ | refine u_q ?_ | refine u_lr ?_ | refine u_qr ?_ | refine u_ls ?_ | refine u_qs ?_ | refine u_t ?_ | refine u_f ?_ | refine y_s ?_ | refine v_o ?_ | refine v_on ?_ | refine v_og ?_ | refine y_q ?_ | refine y_sr ?_ | refine y_k ?_ | refine m_nil ?_)
        refine hcl [] [(30000, 505)] f2 ?_
        repeat (first | refine awp_seq ?_ | refine then_n ?_ | refine then_r ?_ | refine then_x ?_ | refine block_n ?_ | refine block_r ?_ | refine block_x ?_ | refine u_y ?_ | refine loop_r ?_ | refine loop_x ?_ | refine awp_region ?_ | refine awpL_nil ?_ | refine awpQL_nil ?_ | refine awp_block ?_ | refine awp_skip ?_ | refine awp_exit ?_ | refine awp_label ?_ | refine u_dT ?_ | refine u_d ?_ | ((first | apply c_l | apply c_q | apply c_lr | apply c_qr); (iterate 2 exact rfl); (focus (first | exact q1 | exact d3)); (iterate 2 exact rfl)) | (apply y_c; (iterate 4 exact rfl); (focus (first | exact q1 | exact d3)); (iterate 2 exact rfl)) | refine u_l ?_ | refine u_o ?_ | refine u_q ?_ | refine u_lr ?_ | refine u_qr ?_ | refine u_ls ?_ | refine u_qs ?_ | refine u_t ?_ | refine u_f ?_ | refine y_s ?_ | refine v_o ?_ | refine v_on ?_ | refine v_og ?_ | refine y_q ?_ | refine y_sr ?_ | refine y_k ?_ | refine m_nil ?_)
        (refine awp_ret ?_; (repeat (first | refine then_r ?_ | refine block_r ?_ | refine loop_r ?_)); apply ret_ok (.inr rfl); (focus exact rfl))
        rfl

end Go.Proofs.Ytiiiipddgfnbmaa
