/- The law of Candidates. No condition. -/
import Derived.Test.YthcaccakbmooeaaKg
namespace Go.Proofs.Ythcaccakbmooeaa
open Go
attribute [local irreducible] awp awpL awpQL awpQ awpM pWalk Qt AC thenQ blockQ loopQ OpTo
set_option linter.unusedVariables false
set_option linter.unusedSimpArgs false
set_option maxHeartbeats 2000000
attribute [local irreducible] HC

theorem runO_lo {nx ou : List (List Int)} {s o : Int} (m : MV s o nx ou) : ∀ (w : List Int) (q : Int), (0 ≤ q ∧ q < s) → (∀ l ∈ w, 0 ≤ l ∧ l < nx.length) → ∀ v ∈ runO nx ou q w, 0 ≤ v ∧ v < o
  | [], _, _, _, _, h => by cases h
  | l :: w, q, hq, hl, v, h => by
    have h1 := hl l (List.mem_cons_self ..)
    rcases List.mem_cons.1 h with rfl | h
    · exact tbl_at m.ou (by have := m.eq; omega) hq
    · exact runO_lo m w _ (tbl_at m.nx h1 hq) (fun l' h' => hl l' (List.mem_cons_of_mem _ h')) v h
theorem outs_rows {nx ou ws : List (List Int)} {s o : Int} (m : MV s o nx ou) (h : SuOk nx.length ws) : RowsOk (ws.map (runO nx ou 0)) := by
  have hs := m.s1
  have ho := m.o1
  refine ⟨fun r hr => ?_, by have := h.len; simp; omega⟩
  obtain ⟨w, hw, rfl⟩ := List.mem_map.1 hr
  refine ⟨fun v hv => ?_, by rw [runO_length]; have := (h.all w hw).1; omega⟩
  have := runO_lo m w 0 (by omega) (h.all w hw).2 v hv
  exact ⟨by omega, by omega⟩

theorem law_FnCandidates {code more : List Int} (hb : BytesOk code) (hb2 : BytesOk more) : AC Try.prog 4 [u8s code, u8s more] (.bool true) := by
  have g1 := laws_f6big (code := code)
  have g2 := laws_f6big (code := more)
  by_cases c1 : (4096 : Int) < code.length
  · rw [decide_eq_true c1] at g1
    refine ac_intro tabIs _ Try.func4 rfl rfl Try.ntmps4 rfl rfl fun w0 ok0 => ?_
    repeat (first | refine awp_seq ?_ | refine then_n ?_ | refine then_r ?_ | refine then_x ?_ | refine block_n ?_ | refine block_r ?_ | refine block_x ?_ | refine u_y ?_ | refine loop_r ?_ | refine loop_x ?_ | refine awp_region ?_ | refine awpL_nil ?_ | refine awpQL_nil ?_ | refine awp_block ?_ | refine awp_skip ?_ | refine awp_exit ?_ | refine awp_label ?_ | refine u_dT ?_ | refine u_d ?_ | ((first | apply c_l | apply c_q | apply c_lr | apply c_qr); (iterate 2 exact rfl); (focus (first | exact g1)); (iterate 2 exact rfl)) | (apply v_c; (iterate 4 exact rfl); (focus (first | exact g1)); (iterate 2 exact rfl)) | refine u_l ?_ | refine u_o ?_ | refine u_q ?_ | refine u_lr ?_ | refine u_qr ?_ | refine u_ls ?_ | refine u_qs ?_ | refine u_t ?_ | refine u_f ?_ | refine v_s ?_ | refine v_o ?_ | refine v_on ?_ | refine v_og ?_ | refine v_q ?_ | refine v_sr ?_ | refine v_k ?_ | refine m_nil ?_)
    (refine awp_ret ?_; (repeat (first | refine then_r ?_ | refine block_r ?_ | refine loop_r ?_)); apply ret_ok (.inr rfl); (focus exact rfl))
    rfl
  rw [decide_eq_false c1] at g1
  by_cases c2 : (4096 : Int) < more.length
  · rw [decide_eq_true c2] at g2
    refine ac_intro tabIs _ Try.func4 rfl rfl Try.ntmps4 rfl rfl fun w0 ok0 => ?_
    repeat (first | refine awp_seq ?_ | refine then_n ?_ | refine then_r ?_ | refine then_x ?_ | refine block_n ?_ | refine block_r ?_ | refine block_x ?_ | refine u_y ?_ | refine loop_r ?_ | refine loop_x ?_ | refine awp_region ?_ | refine awpL_nil ?_ | refine awpQL_nil ?_ | refine awp_block ?_ | refine awp_skip ?_ | refine awp_exit ?_ | refine awp_label ?_ | refine u_dT ?_ | refine u_d ?_ | ((first | apply c_l | apply c_q | apply c_lr | apply c_qr); (iterate 2 exact rfl); (focus (first | exact g1 | exact g2)); (iterate 2 exact rfl)) | (apply v_c; (iterate 4 exact rfl); (focus (first | exact g1 | exact g2)); (iterate 2 exact rfl)) | refine u_l ?_ | refine u_o ?_ | refine u_q ?_ | refine u_lr ?_ | refine u_qr ?_ | refine u_ls ?_ | refine u_qs ?_ | refine u_t ?_ | refine u_f ?_ | refine v_s ?_ | refine v_o ?_ | refine v_on ?_ | refine v_og ?_ | refine v_q ?_ | refine v_sr ?_ | refine v_k ?_ | refine m_nil ?_)
    (refine awp_ret ?_; (repeat (first | refine then_r ?_ | refine block_r ?_ | refine loop_r ?_)); apply ret_ok (.inr rfl); (focus exact rfl))
    rfl
  rw [decide_eq_false c2] at g2
  have p1 := spec_P6Machine hb
  have m := mv_pmM hb
  generalize pmM code = M at *
  obtain ⟨s, o, nx, ou⟩ := M
  dsimp only at p1 m
  have hn := m.n1
  have hs := m.s1
  have p2 := spec_P6Suite (code := more) (s := s) (o := o) (nx := nx) (ou := ou) hb2 (by omega)
  have su := su_psM (n := nx.length) hb2 (by omega)
  generalize psM more nx.length = ws at *
  have p3 := spec_MutantCountV m
  have hN := mutN_bounds m.s1 m.o1 m.n1.2
  generalize hC : mutN s o nx.length = N at *
  by_cases hz : N = 0
  · subst hz
    refine ac_intro tabIs _ Try.func4 rfl rfl Try.ntmps4 rfl rfl fun w0 ok0 => ?_
    repeat (first | refine awp_seq ?_ | refine then_n ?_ | refine then_r ?_ | refine then_x ?_ | refine block_n ?_ | refine block_r ?_ | refine block_x ?_ | refine u_y ?_ | refine loop_r ?_ | refine loop_x ?_ | refine awp_region ?_ | refine awpL_nil ?_ | refine awpQL_nil ?_ | refine awp_block ?_ | refine awp_skip ?_ | refine awp_exit ?_ | refine awp_label ?_ | refine u_dT ?_ | refine u_d ?_ | ((first | apply c_l | apply c_q | apply c_lr | apply c_qr); (iterate 2 exact rfl); (focus (first | exact g1 | exact g2 | exact p1 | exact p2 | exact p3)); (iterate 2 exact rfl)) | (apply v_c; (iterate 4 exact rfl); (focus (first | exact g1 | exact g2 | exact p1 | exact p2 | exact p3)); (iterate 2 exact rfl)) | refine u_l ?_ | refine u_o ?_ | refine u_q ?_ | refine u_lr ?_ | refine u_qr ?_ | refine u_ls ?_ | refine u_qs ?_ | refine u_t ?_ | refine u_f ?_ | refine v_s ?_ | refine v_o ?_ | refine v_on ?_ | refine v_og ?_ | refine v_q ?_ | refine v_sr ?_ | refine v_k ?_ | refine m_nil ?_)
    (refine awp_ret ?_; (repeat (first | refine then_r ?_ | refine block_r ?_ | refine loop_r ?_)); apply ret_ok (.inr rfl); (focus exact rfl))
    rfl
  have p4 := spec_P6Pick (n := N) hb2 (by omega)
  have hk := pick_range (s := ⟨0, 0⟩) (n := N) hb2 (by omega)
  generalize pickV more N ⟨0, 0⟩ = k at *
  have hkN : 0 ≤ k ∧ k < mutN s o nx.length := by rw [hC]; exact hk
  have p5 := impl_MutantAtV m hkN
  have p6 := spec_MutantAtV m hkN
  obtain ⟨mx, hln⟩ := mv_mut m hkN
  have hcan := canL_mem s o nx ou ws (ws.map (runO (mutX s o nx ou k).1 (mutX s o nx ou k).2 0)) N.toNat
  have hcl := canL_len s o nx ou ws (ws.map (runO (mutX s o nx ou k).1 (mutX s o nx ou k).2 0)) N.toNat
  have suX : SuOk (mutX s o nx ou k).1.length ws := by rw [hln]; exact su
  have hro := outs_rows mx suX
  have p7 := impl_CandidatesV m su hro (by simp)
  have p8 := spec_CandidatesV m su hro (by simp)
  have p9 := impl_PassesV m mx hln su
  have hps := failS_same nx ou (mutX s o nx ou k).1 (mutX s o nx ou k).2 ws 0
  have pS := spec_SameMachine (s := s) (o := o) (s' := s) (o' := o) mx.rnx mx.rou mx.rnx mx.rou
  rw [show sameM s o (mutX s o nx ou k).1 (mutX s o nx ou k).2 s o (mutX s o nx ou k).1 (mutX s o nx ou k).2 = true by simp [sameM]] at pS
  rw [hC] at p7 p8
  have hk1 : k ∈ canL s o nx ou ws (ws.map (runO (mutX s o nx ou k).1 (mutX s o nx ou k).2 0)) N.toNat := (hcan k).2 (.inr ⟨by omega, by simp [ansB]⟩)
  have hm1 : decide (-1 ∈ canL s o nx ou ws (ws.map (runO (mutX s o nx ou k).1 (mutX s o nx ou k).2 0)) N.toNat) = decide ((failS nx ou (mutX s o nx ou k).1 (mutX s o nx ou k).2 0 ws).1 < 0) := by
    rw [decide_eq_decide, hcan, hps]
    simp [ansB]
  have hel : ∀ v ∈ canL s o nx ou ws (ws.map (runO (mutX s o nx ou k).1 (mutX s o nx ou k).2 0)) N.toNat, 0 ≤ v → (0 ≤ v ∧ v < mutN s o nx.length) ∧ ∀ i, (failS (mutX s o nx ou k).1 (mutX s o nx ou k).2 (mutX s o nx ou v).1 (mutX s o nx ou v).2 i ws).1 < 0 := fun v hv h0 => by
    rcases (hcan v).1 hv with ⟨rfl, _⟩ | ⟨h1, h2⟩
    · omega
    · refine ⟨by rw [hC]; omega, fun i => (failS_same _ _ _ _ ws i).2 ?_⟩
      simp only [ansB, decide_eq_true_eq] at h2
      exact h2.symm
  generalize canL s o nx ou ws (ws.map (runO (mutX s o nx ou k).1 (mutX s o nx ou k).2 0)) N.toNat = L at *
  generalize decide ((failS nx ou (mutX s o nx ou k).1 (mutX s o nx ou k).2 0 ws).1 < 0) = P at *
  have hle : (List.map ints ws).length = ws.length := by simp
  have hwl := su.len
  have pE := laws_f6ints (a := L) (b := L) (by omega) (by omega)
  rw [decide_eq_true rfl] at pE
  have hY : ∀ v, (0 ≤ v ∧ v < mutN s o nx.length) → AC Try.prog 16 [mach s o nx ou, .int .i64 v] (.tup [mach s o (mutX s o nx ou v).1 (mutX s o nx ou v).2, .int .i64 0]) := fun v h => impl_MutantAtV m h
  have hZ : ∀ v, (0 ≤ v ∧ v < mutN s o nx.length) → AC Try.prog 19 [mach s o (mutX s o nx ou k).1 (mutX s o nx ou k).2, mach s o (mutX s o nx ou v).1 (mutX s o nx ou v).2, rows ws] (.tup [.bool (decide ((failS (mutX s o nx ou k).1 (mutX s o nx ou k).2 (mutX s o nx ou v).1 (mutX s o nx ou v).2 0 ws).1 < 0)), .int .i64 0]) := fun v h => by
    obtain ⟨my, hly⟩ := mv_mut m h
    exact impl_PassesV mx my (by rw [hly, hln]) suX
  have hO : ∀ w ∈ ws, AC Try.prog 20 [mach s o (mutX s o nx ou k).1 (mutX s o nx ou k).2, .int .i64 0, ints w] (.tup [ints (runO (mutX s o nx ou k).1 (mutX s o nx ou k).2 0 w), .int .i64 (runS (mutX s o nx ou k).1 0 w), .int .i64 0]) := fun w hw => spec_OutputsOf mx (by omega) (suX.all w hw).1 (suX.all w hw).2
  generalize (mutX s o nx ou k).1 = X1 at *
  generalize (mutX s o nx ou k).2 = X2 at *
  refine ac_intro tabIs _ Try.func4 rfl rfl Try.ntmps4 rfl rfl fun w0 ok0 => ?_
  repeat (first | refine v_w (t := 78) ?_ | refine awp_seq ?_ | refine then_n ?_ | refine then_r ?_ | refine then_x ?_ | refine block_n ?_ | refine block_r ?_ | refine block_x ?_ | refine u_y ?_ | refine loop_r ?_ | refine loop_x ?_ | refine awp_region ?_ | refine awpL_nil ?_ | refine awpQL_nil ?_ | refine awp_block ?_ | refine awp_skip ?_ | refine awp_exit ?_ | refine awp_label ?_ | refine u_dT ?_ | refine u_d ?_ | refine u_w (t := 78) ?_ | ((first | apply c_l | apply c_q | apply c_lr | apply c_qr); (iterate 2 exact rfl); (focus (first | exact g1 | exact g2 | exact p1 | exact p2 | exact p3 | exact p4 | exact p5 | exact p6 | exact pS)); (iterate 2 exact rfl)) | (apply v_c; (iterate 4 exact rfl); (focus (first | exact g1 | exact g2 | exact p1 | exact p2 | exact p3 | exact p4 | exact p5 | exact p6 | exact pS)); (iterate 2 exact rfl)) | refine u_l ?_ | refine u_o ?_ | refine u_q ?_ | refine u_lr ?_ | refine u_qr ?_ | refine u_ls ?_ | refine u_qs ?_ | refine u_t ?_ | refine u_f ?_ | refine v_s ?_ | refine v_o ?_ | refine v_on ?_ | refine v_og ?_ | refine v_q ?_ | refine v_sr ?_ | refine v_k ?_ | refine m_nil ?_)
  refine awp_permTo [(78, .arr 31 1 (((ws.take 0).map (runO X1 X2 0)).map ints)), (5, .box [.d (.int .i64 s), .d (.int .i64 o), .d (rows nx), .d (rows ou)]), (10, .box [.d (.int .i64 s), .d (.int .i64 o), .d (rows X1), .d (rows X2)]), (12, .box [.d (.int .i64 s), .d (.int .i64 o), .d (rows X1), .d (rows X2)])] (by as_aux_lemma => kernel_rfl) ?_
  refine awp_loop (fun i : Nat => i ≤ ws.length) (fun i => [(5, .ref 5 0), (6, .d (rows ws)), (9, .d (.int .i64 k)), (12, .ref 12 0), (14, .own 78), (15, .d (.int .i64 i))])
    (fun i => [(78, .arr 31 1 (((ws.take i).map (runO X1 X2 0)).map ints)), (5, .box [.d (.int .i64 s), .d (.int .i64 o), .d (rows nx), .d (rows ou)]), (10, .box [.d (.int .i64 s), .d (.int .i64 o), .d (rows X1), .d (rows X2)]), (12, .box [.d (.int .i64 s), .d (.int .i64 o), .d (rows X1), .d (rows X2)])])
    (fun i => ws.length - i) 0 (by omega) ?_ rfl ?_
  · ((repeat (first | exact trivial | (refine ⟨?_, ?_⟩; (focus (first | rfl | (simp [lk, argsS, args0]; done) | (simp [lk, argsS, args0]; omega)))))))
  · intro i hi
    by_cases hlt : i < ws.length
    · have hx := el_row hlt
      have e1 := hO _ (List.getElem_mem hlt)
      have hst : ((ws.take (i + 1)).map (runO X1 X2 0)).map ints = ((ws.take i).map (runO X1 X2 0)).map ints ++ [ints (runO X1 X2 0 ws[i])] := by
        rw [List.take_succ_eq_append_getElem hlt, List.map_append, List.map_append, List.map_singleton, List.map_singleton]
      have hlen : (((ws.take i).map (runO X1 X2 0)).map ints).length = i := by simp; omega
      have hlen2 : (ws.take i).length = i := by simp; omega
      repeat (first | refine awp_seq ?_ | refine then_n ?_ | refine then_r ?_ | refine then_x ?_ | refine block_n ?_ | refine block_r ?_ | refine block_x ?_ | refine u_y ?_ | refine loop_r ?_ | refine loop_x ?_ | refine awp_region ?_ | refine awpL_nil ?_ | refine awpQL_nil ?_ | refine awp_block ?_ | refine awp_skip ?_ | refine awp_exit ?_ | refine awp_label ?_ | refine u_dT ?_ | refine u_d ?_ | ((first | apply c_l | apply c_q | apply c_lr | apply c_qr); (iterate 2 exact rfl); (focus (first | exact e1)); (iterate 2 exact rfl)) | (apply v_c; (iterate 4 exact rfl); (focus (first | exact e1)); (iterate 2 exact rfl)) | refine u_l ?_ | refine u_o ?_ | refine u_q ?_ | refine u_lr ?_ | refine u_qr ?_ | refine u_ls ?_ | refine u_qs ?_ | refine u_t ?_ | refine u_f ?_ | refine v_s ?_ | refine v_o ?_ | refine v_on ?_ | refine v_og ?_ | refine v_q ?_ | refine v_sr ?_ | refine v_k ?_ | refine m_nil ?_)
      refine loop_n (i + 1) (by omega) ?_ ?_ (by omega)
      · ((repeat (first | exact trivial | (refine ⟨?_, ?_⟩; (focus (first | rfl | (simp [lk, argsS, args0]; done) | (simp [lk, argsS, args0]; omega)))))))
      · rw [hst]; (as_aux_lemma => kernel_rfl)
    · have hie : i = ws.length := by omega
      subst hie
      rw [List.take_length]
      refine awp_freeze 78 rfl rfl ?_
      repeat (first | refine awp_seq ?_ | refine then_n ?_ | refine then_r ?_ | refine then_x ?_ | refine block_n ?_ | refine block_r ?_ | refine block_x ?_ | refine u_y ?_ | refine loop_r ?_ | refine loop_x ?_ | refine awp_region ?_ | refine awpL_nil ?_ | refine awpQL_nil ?_ | refine awp_block ?_ | refine awp_skip ?_ | refine awp_exit ?_ | refine awp_label ?_ | refine u_dT ?_ | refine u_d ?_ | ((first | apply c_l | apply c_q | apply c_lr | apply c_qr); (iterate 2 exact rfl); (focus (first | exact p7 | exact p8 | exact p9 | exact pE)); (iterate 2 exact rfl)) | (apply v_c; (iterate 4 exact rfl); (focus (first | exact p7 | exact p8 | exact p9 | exact pE)); (iterate 2 exact rfl)) | refine u_l ?_ | refine u_o ?_ | refine u_q ?_ | refine u_lr ?_ | refine u_qr ?_ | refine u_ls ?_ | refine u_qs ?_ | refine u_t ?_ | refine u_f ?_ | refine v_s ?_ | refine v_o ?_ | refine v_on ?_ | refine v_og ?_ | refine v_q ?_ | refine v_sr ?_ | refine v_k ?_ | refine m_nil ?_)
      have hl0 : L.length ≤ 331 := by omega
      refine awp_loop (fun i : Nat => i ≤ L.length) (fun i => [(5, .ref 5 0), (6, .d (rows ws)), (9, .d (.int .i64 k)), (12, .ref 12 0), (21, .d (ints L)), (23, .d (.bool P)), (25, .d (.bool (fnd L k i))), (26, .d (.bool (fnd L (-1) i))), (27, .d (.int .i64 i))])
        (fun i => [(5, .box [.d (.int .i64 s), .d (.int .i64 o), .d (rows nx), .d (rows ou)]), (10, .box [.d (.int .i64 s), .d (.int .i64 o), .d (rows X1), .d (rows X2)]), (12, .box [.d (.int .i64 s), .d (.int .i64 o), .d (rows X1), .d (rows X2)])])
        (fun i => L.length - i) 0 (by omega) ?_ rfl ?_
      · ((repeat (first | exact trivial | (refine ⟨?_, ?_⟩; (focus (first | rfl | (simp [lk, argsS, args0]; done) | (simp [lk, argsS, args0]; omega)))))))
      · intro i hi
        by_cases hlt : i < L.length
        · have hx := el_int hlt
          have f1 := fnd_succ (k := k) hlt
          have f2 := fnd_succ (k := -1) hlt
          have hmem : L[i] ∈ L := List.getElem_mem hlt
          generalize fnd L k i = b1 at f1 ⊢
          generalize fnd L (-1) i = b2 at f2 ⊢
          by_cases hneg : L[i] < 0
          · cases b1 <;> cases b2
            all_goals
              repeat (first | refine awp_seq ?_ | refine then_n ?_ | refine then_r ?_ | refine then_x ?_ | refine block_n ?_ | refine block_r ?_ | refine block_x ?_ | refine u_y ?_ | refine loop_r ?_ | refine loop_x ?_ | refine awp_region ?_ | refine awpL_nil ?_ | refine awpQL_nil ?_ | refine awp_block ?_ | refine awp_skip ?_ | refine awp_exit ?_ | refine awp_label ?_ | refine u_dT ?_ | refine u_d ?_ | refine u_l ?_ | refine u_o ?_ | refine u_q ?_ | refine u_lr ?_ | refine u_qr ?_ | refine u_ls ?_ | refine u_qs ?_ | refine u_t ?_ | refine u_f ?_ | refine v_s ?_ | refine v_o ?_ | refine v_on ?_ | refine v_og ?_ | refine v_q ?_ | refine v_sr ?_ | refine v_k ?_ | refine m_nil ?_)
              refine loop_n (i + 1) (by omega) ?_ rfl (by omega)
              rw [f1, f2]
              simp only [Bool.false_or, Bool.true_or]
              ((repeat (first | exact trivial | (refine ⟨?_, ?_⟩; (focus (first | rfl | (simp [lk, argsS, args0]; done) | (simp [lk, argsS, args0]; omega)))))))
          · obtain ⟨hv, hfs⟩ := hel _ hmem (by omega)
            have y1 := hY _ hv
            have z1 := hZ _ hv
            rw [decide_eq_true (hfs 0)] at z1
            generalize (mutX s o nx ou L[i]).1 = Y1 at *
            generalize (mutX s o nx ou L[i]).2 = Y2 at *
            cases b1 <;> cases b2
            all_goals
              repeat (first | refine awp_seq ?_ | refine then_n ?_ | refine then_r ?_ | refine then_x ?_ | refine block_n ?_ | refine block_r ?_ | refine block_x ?_ | refine u_y ?_ | refine loop_r ?_ | refine loop_x ?_ | refine awp_region ?_ | refine awpL_nil ?_ | refine awpQL_nil ?_ | refine awp_block ?_ | refine awp_skip ?_ | refine awp_exit ?_ | refine awp_label ?_ | refine u_l ?_ | refine u_o ?_ | refine u_q ?_ | refine u_lr ?_ | refine u_qr ?_ | refine u_ls ?_ | refine u_qs ?_ | refine u_t ?_ | refine u_f ?_ | refine v_s ?_ | refine v_o ?_ | refine v_on ?_ | refine v_og ?_ | refine v_q ?_ | refine v_sr ?_ | refine v_k ?_ | refine m_nil ?_)
              refine u_m [(9, [28]), (10, [28])] (.tk [28] [0, 1, 2, 3, 4, 5, 6, 7, 8] (.tk [] [9, 10, 11] .done)) ?_
              repeat (first | refine awp_seq ?_ | refine then_n ?_ | refine then_r ?_ | refine then_x ?_ | refine block_n ?_ | refine block_r ?_ | refine block_x ?_ | refine u_y ?_ | refine loop_r ?_ | refine loop_x ?_ | refine awpL_nil ?_ | refine awpQL_nil ?_ | refine awp_block ?_ | refine awp_skip ?_ | refine awp_exit ?_ | refine awp_label ?_ | refine u_dT ?_ | refine u_d ?_ | ((first | apply c_l | apply c_q | apply c_lr | apply c_qr); (iterate 2 exact rfl); (focus (first | exact y1)); (iterate 2 exact rfl)) | (apply v_c; (iterate 4 exact rfl); (focus (first | exact y1)); (iterate 2 exact rfl)) | refine u_l ?_ | refine u_o ?_ | refine u_q ?_ | refine u_lr ?_ | refine u_qr ?_ | refine u_ls ?_ | refine u_qs ?_ | refine u_t ?_ | refine u_f ?_ | refine v_s ?_ | refine v_o ?_ | refine v_on ?_ | refine v_og ?_ | refine v_q ?_ | refine v_sr ?_ | refine v_k ?_ | refine m_nil ?_)
              refine awp_freezeB 28 rfl rfl rfl ?_
              repeat (first | refine awp_seq ?_ | refine then_n ?_ | refine then_r ?_ | refine then_x ?_ | refine block_n ?_ | refine block_r ?_ | refine block_x ?_ | refine u_y ?_ | refine loop_r ?_ | refine loop_x ?_ | refine awp_region ?_ | refine awpL_nil ?_ | refine awpQL_nil ?_ | refine awp_block ?_ | refine awp_skip ?_ | refine awp_exit ?_ | refine awp_label ?_ | refine u_dT ?_ | refine u_d ?_ | ((first | apply c_l | apply c_q | apply c_lr | apply c_qr); (iterate 2 exact rfl); (focus (first | exact z1)); (iterate 2 exact rfl)) | (apply v_c; (iterate 4 exact rfl); (focus (first | exact z1)); (iterate 2 exact rfl)) | refine u_l ?_ | refine u_o ?_ | refine u_q ?_ | refine u_lr ?_ | refine u_qr ?_ | refine u_ls ?_ | refine u_qs ?_ | refine u_t ?_ | refine u_f ?_ | refine v_s ?_ | refine v_o ?_ | refine v_on ?_ | refine v_og ?_ | refine v_q ?_ | refine v_sr ?_ | refine v_k ?_ | refine m_nil ?_)
              refine loop_n (i + 1) (by omega) ?_ rfl (by omega)
              rw [f1, f2]
              simp only [Bool.false_or, Bool.true_or]
              ((repeat (first | exact trivial | (refine ⟨?_, ?_⟩; (focus (first | rfl | (simp [lk, argsS, args0]; done) | (simp [lk, argsS, args0]; omega)))))))
        · have hie : i = L.length := by omega
          subst hie
          have f1 := fnd_all L k
          have f2 := fnd_all L (-1)
          rw [decide_eq_true hk1] at f1
          rw [hm1] at f2
          rw [f1, f2]
          repeat (first | refine awp_seq ?_ | refine then_n ?_ | refine then_r ?_ | refine then_x ?_ | refine block_n ?_ | refine block_r ?_ | refine block_x ?_ | refine u_y ?_ | refine loop_r ?_ | refine loop_x ?_ | refine awp_region ?_ | refine awpL_nil ?_ | refine awpQL_nil ?_ | refine awp_block ?_ | refine awp_skip ?_ | refine awp_exit ?_ | refine awp_label ?_ | refine u_dT ?_ | refine u_d ?_ | refine u_l ?_ | refine u_o ?_ | refine u_q ?_ | refine u_lr ?_ | refine u_qr ?_ | refine u_ls ?_ | refine u_qs ?_ | refine u_t ?_ | refine u_f ?_ | refine v_s ?_ | refine v_o ?_ | refine v_on ?_ | refine v_og ?_ | refine v_q ?_ | refine v_sr ?_ | refine v_k ?_ | refine m_nil ?_)
          cases P
          all_goals
            repeat (first | refine awp_seq ?_ | refine then_n ?_ | refine then_r ?_ | refine then_x ?_ | refine block_n ?_ | refine block_r ?_ | refine block_x ?_ | refine u_y ?_ | refine loop_r ?_ | refine loop_x ?_ | refine awp_region ?_ | refine awpL_nil ?_ | refine awpQL_nil ?_ | refine awp_block ?_ | refine awp_skip ?_ | refine awp_exit ?_ | refine awp_label ?_ | refine u_dT ?_ | refine u_d ?_ | refine u_l ?_ | refine u_o ?_ | refine u_q ?_ | refine u_lr ?_ | refine u_qr ?_ | refine u_ls ?_ | refine u_qs ?_ | refine u_t ?_ | refine u_f ?_ | refine v_s ?_ | refine v_o ?_ | refine v_on ?_ | refine v_og ?_ | refine v_q ?_ | refine v_sr ?_ | refine v_k ?_ | refine m_nil ?_)
            (refine awp_ret ?_; (repeat (first | refine then_r ?_ | refine block_r ?_ | refine loop_r ?_)); apply ret_ok (.inr rfl); (focus exact rfl))
            rfl

end Go.Proofs.Ythcaccakbmooeaa
