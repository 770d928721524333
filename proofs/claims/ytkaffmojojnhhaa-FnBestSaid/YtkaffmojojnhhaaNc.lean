/- The reference's mutant. No condition. -/
import Derived.Test.YtkaffmojojnhhaaNa
namespace Go.Proofs.Ytkaffmojojnhhaa
open Go
attribute [local irreducible] awp awpL awpQL awpQ awpM pWalk Qt AC thenQ blockQ loopQ OpTo
set_option linter.unusedVariables false
set_option linter.unusedSimpArgs false
set_option maxHeartbeats 2000000
attribute [local irreducible] HC

theorem spec_l07Mutant {s o k : Int} {nx ou : List (List Int)} (m : MV s o nx ou) (hk : 0 ≤ k ∧ k < mutN s o nx.length) : AC Try.prog 88 [.ptr (mach s o nx ou), .int .i64 k] (mach s o (mutX s o nx ou k).1 (mutX s o nx ou k).2) := by
  have hi := mut_idx m.s1 m.o1 m.n1.2 hk
  have hs1 := m.s1
  have ho1 := m.o1
  have hn1 := m.n1
  have heq := m.eq
  have he := hi.e0
  have hk2 := hi.k0
  have hii := hi.i0
  have hd := hi.d0
  have hq := hi.q0
  have hl := hi.l0
  have e1 := spec_l07Each (s := s) (o := o) (nx := nx) (ou := ou) m.s1 m.o1
  have c1 := spec_l06OwnRowsH (nss := nx) (by omega) (fun ns hm => by have := (m.nx ns hm).1; omega)
  have c2 := spec_l06OwnRowsH (nss := ou) (by omega) (fun ns hm => by have := (m.ou ns hm).1; omega)
  have hX : mutX s o nx ou k = if k % (o - 1 + s - 1) < o - 1 then (nx, set2 ou (k / (o - 1 + s - 1) / s) (k / (o - 1 + s - 1) % s) (othr (k % (o - 1 + s - 1)) (at2 ou (k / (o - 1 + s - 1) / s) (k / (o - 1 + s - 1) % s))))
    else (set2 nx (k / (o - 1 + s - 1) / s) (k / (o - 1 + s - 1) % s) (othr (k % (o - 1 + s - 1) - (o - 1)) (at2 nx (k / (o - 1 + s - 1) / s) (k / (o - 1 + s - 1) % s))), ou) := rfl
  generalize mutX s o nx ou k = R at *
  generalize hE : o - 1 + s - 1 = e at *
  generalize hI : k % e = i at *
  generalize hD : k / e = d at *
  generalize hQ : d % s = q at *
  generalize hL : d / s = l at *
  have rnx := rws_length nx
  have rou := rws_length ou
  have tn := rws_row (xs := nx) hl
  have to := rws_row (xs := ou) (by rw [heq]; exact hl)
  have rl1 : ((row nx l).length : Int) = s := tbl_row m.nx hl
  have rl2 : ((row ou l).length : Int) = s := tbl_row m.ou (by rw [heq]; exact hl)
  have g1 := el_row2 (xs := nx) hl
  have g2 := el_row2 (xs := ou) (l := l) (by rw [heq]; exact hl)
  have g3 := el_int2 (ns := row nx l) (q := q) (by omega)
  have g4 := el_int2 (ns := row ou l) (q := q) (by omega)
  have ml1 : (List.map (D.int .i64) (row nx l)).length = (row nx l).length := by simp
  have ml2 : (List.map (D.int .i64) (row ou l)).length = (row ou l).length := by simp
  have mm1 : (List.map ints nx).length = nx.length := by simp
  have mm2 : (List.map ints ou).length = ou.length := by simp
  refine ac_introC tabIs _ Try.func88 rfl rfl Try.ntmps88 rfl rfl fun w0 ok0 => ?_
  repeat (first | refine awp_seq ?_ | refine then_n ?_ | refine then_r ?_ | refine then_x ?_ | refine block_n ?_ | refine block_r ?_ | refine block_x ?_ | refine u_y ?_ | refine loop_r ?_ | refine loop_x ?_ | refine awp_region ?_ | refine awpL_nil ?_ | refine awpQL_nil ?_ | refine awp_block ?_ | refine awp_skip ?_ | refine awp_exit ?_ | refine awp_label ?_ | refine u_l ?_ | refine u_o ?_ | refine u_q ?_ | refine u_lr ?_ | refine u_qr ?_ | refine u_ls ?_ | refine u_qs ?_ | refine u_t ?_ | refine u_f ?_ | refine v_s ?_ | refine v_o ?_ | refine v_on ?_ | refine v_og ?_ | refine v_q ?_ | refine v_sr ?_ | refine v_k ?_ | refine m_nil ?_)
  refine u_mJ [(12, [22]), (17, [27]), (18, []), (19, [5]), (20, [5])] (.tk [22, 27, 5] [0, 1, 2, 3, 4, 5, 6, 7, 8, 9, 10, 11, 13, 14, 15, 16] (.fork 12 19 (.fork 17 19 (.fork 18 19 (.tk [] [19, 20] .done) (.tk [] [18, 20] .done)) (.tk [] [17, 18, 20] .done)) (.tk [] [12, 17, 18, 20] .done)))
    [(0, .d (.ptr (mach s o nx ou))), (1, .d (.int .i64 k)), (4, .ref 4 0), (5, .ref 5 0)]
    [(4, .box [.d (.int .i64 0), .d (.int .i64 0), .d .nils, .d .nils]), (5, .box [.d (.int .i64 s), .d (.int .i64 o), .own 22, .own 27]), (22, .rows 26 2 1 (rws nx) none), (27, .rows 26 2 1 (rws ou) none)] ?_ ?_
  · repeat (first | refine awp_seq ?_ | refine then_n ?_ | refine then_r ?_ | refine then_x ?_ | refine block_n ?_ | refine block_r ?_ | refine block_x ?_ | refine u_y ?_ | refine loop_r ?_ | refine loop_x ?_ | refine awp_region ?_ | refine awpL_nil ?_ | refine awpQL_nil ?_ | refine awp_block ?_ | refine awp_skip ?_ | refine awp_exit ?_ | refine awp_label ?_ | refine u_dT ?_ | refine u_d ?_ | refine u_l ?_ | refine u_o ?_ | refine u_q ?_ | refine u_lr ?_ | refine u_qr ?_ | refine u_ls ?_ | refine u_qs ?_ | refine u_t ?_ | refine u_f ?_ | refine v_s ?_ | refine v_o ?_ | refine v_on ?_ | refine v_og ?_ | refine v_q ?_ | refine v_sr ?_ | refine v_k ?_ | refine m_nil ?_)
    refine m_fork ?_ ?_
    · refine hclM [] [(30000, 22)] c1 ?_
      refine m_fork ?_ ?_
      · refine hclM [] [(30000, 27)] c2 ?_
        refine m_fork ?_ ?_
        · refine m_t0 (X := []) (ids := [13, 17, 22, 27]) (sv := .agg [.d (.int .i64 s), .d (.int .i64 o), .own 22, .own 27]) (fun rest => opTo_of_qt (wa_buildS (by exact rfl) (by exact rfl) (by exact rfl) (by exact rfl)) rfl) ?_ rfl rfl (by simp [wantedA]) rfl rfl
          repeat (first | refine awp_seq ?_ | refine then_n ?_ | refine then_r ?_ | refine then_x ?_ | refine block_n ?_ | refine block_r ?_ | refine block_x ?_ | refine u_y ?_ | refine loop_r ?_ | refine loop_x ?_ | refine awp_region ?_ | refine awpL_nil ?_ | refine awpQL_nil ?_ | refine awp_block ?_ | refine awp_skip ?_ | refine awp_exit ?_ | refine awp_label ?_ | refine u_dT ?_ | refine u_d ?_ | refine u_l ?_ | refine u_o ?_ | refine u_q ?_ | refine u_lr ?_ | refine u_qr ?_ | refine u_ls ?_ | refine u_qs ?_ | refine u_t ?_ | refine u_f ?_ | refine v_s ?_ | refine v_o ?_ | refine v_on ?_ | refine v_og ?_ | refine v_q ?_ | refine v_sr ?_ | refine v_k ?_ | refine m_nil ?_)
          exact ⟨by ((repeat (first | exact trivial | (refine ⟨?_, ?_⟩; (focus (first | rfl | (simp [lk, argsS, args0]; done) | (simp [lk, argsS, args0]; omega))))))), perm_of_sort rfl⟩
        · repeat (first | refine awp_seq ?_ | refine then_n ?_ | refine then_r ?_ | refine then_x ?_ | refine block_n ?_ | refine block_r ?_ | refine block_x ?_ | refine u_y ?_ | refine loop_r ?_ | refine loop_x ?_ | refine awp_region ?_ | refine awpL_nil ?_ | refine awpQL_nil ?_ | refine awp_block ?_ | refine awp_skip ?_ | refine awp_exit ?_ | refine awp_label ?_ | refine u_dT ?_ | refine u_d ?_ | refine u_l ?_ | refine u_o ?_ | refine u_q ?_ | refine u_lr ?_ | refine u_qr ?_ | refine u_ls ?_ | refine u_qs ?_ | refine u_t ?_ | refine u_f ?_ | refine v_s ?_ | refine v_o ?_ | refine v_on ?_ | refine v_og ?_ | refine v_q ?_ | refine v_sr ?_ | refine v_k ?_ | refine m_nil ?_)
          refine m_t0 (X := []) (ids := [13, 17, 22, 27]) (sv := .agg [.d (.int .i64 s), .d (.int .i64 o), .own 22, .own 27]) (fun rest => opTo_of_qt (wa_buildS (by exact rfl) (by exact rfl) (by exact rfl) (by exact rfl)) rfl) ?_ rfl rfl (by simp [wantedA]) rfl rfl
          repeat (first | refine awp_seq ?_ | refine then_n ?_ | refine then_r ?_ | refine then_x ?_ | refine block_n ?_ | refine block_r ?_ | refine block_x ?_ | refine u_y ?_ | refine loop_r ?_ | refine loop_x ?_ | refine awp_region ?_ | refine awpL_nil ?_ | refine awpQL_nil ?_ | refine awp_block ?_ | refine awp_skip ?_ | refine awp_exit ?_ | refine awp_label ?_ | refine u_dT ?_ | refine u_d ?_ | refine u_l ?_ | refine u_o ?_ | refine u_q ?_ | refine u_lr ?_ | refine u_qr ?_ | refine u_ls ?_ | refine u_qs ?_ | refine u_t ?_ | refine u_f ?_ | refine v_s ?_ | refine v_o ?_ | refine v_on ?_ | refine v_og ?_ | refine v_q ?_ | refine v_sr ?_ | refine v_k ?_ | refine m_nil ?_)
          exact ⟨by ((repeat (first | exact trivial | (refine ⟨?_, ?_⟩; (focus (first | rfl | (simp [lk, argsS, args0]; done) | (simp [lk, argsS, args0]; omega))))))), perm_of_sort rfl⟩
      · repeat (first | refine awp_seq ?_ | refine then_n ?_ | refine then_r ?_ | refine then_x ?_ | refine block_n ?_ | refine block_r ?_ | refine block_x ?_ | refine u_y ?_ | refine loop_r ?_ | refine loop_x ?_ | refine awp_region ?_ | refine awpL_nil ?_ | refine awpQL_nil ?_ | refine awp_block ?_ | refine awp_skip ?_ | refine awp_exit ?_ | refine awp_label ?_ | refine u_dT ?_ | refine u_d ?_ | refine u_l ?_ | refine u_o ?_ | refine u_q ?_ | refine u_lr ?_ | refine u_qr ?_ | refine u_ls ?_ | refine u_qs ?_ | refine u_t ?_ | refine u_f ?_ | refine v_s ?_ | refine v_o ?_ | refine v_on ?_ | refine v_og ?_ | refine v_q ?_ | refine v_sr ?_ | refine v_k ?_ | refine m_nil ?_)
        refine hclM [] [(30000, 27)] c2 ?_
        refine m_t0 (X := []) (ids := [13, 17, 22, 27]) (sv := .agg [.d (.int .i64 s), .d (.int .i64 o), .own 22, .own 27]) (fun rest => opTo_of_qt (wa_buildS (by exact rfl) (by exact rfl) (by exact rfl) (by exact rfl)) rfl) ?_ rfl rfl (by simp [wantedA]) rfl rfl
        repeat (first | refine awp_seq ?_ | refine then_n ?_ | refine then_r ?_ | refine then_x ?_ | refine block_n ?_ | refine block_r ?_ | refine block_x ?_ | refine u_y ?_ | refine loop_r ?_ | refine loop_x ?_ | refine awp_region ?_ | refine awpL_nil ?_ | refine awpQL_nil ?_ | refine awp_block ?_ | refine awp_skip ?_ | refine awp_exit ?_ | refine awp_label ?_ | refine u_dT ?_ | refine u_d ?_ | refine u_l ?_ | refine u_o ?_ | refine u_q ?_ | refine u_lr ?_ | refine u_qr ?_ | refine u_ls ?_ | refine u_qs ?_ | refine u_t ?_ | refine u_f ?_ | refine v_s ?_ | refine v_o ?_ | refine v_on ?_ | refine v_og ?_ | refine v_q ?_ | refine v_sr ?_ | refine v_k ?_ | refine m_nil ?_)
        exact ⟨by ((repeat (first | exact trivial | (refine ⟨?_, ?_⟩; (focus (first | rfl | (simp [lk, argsS, args0]; done) | (simp [lk, argsS, args0]; omega))))))), perm_of_sort rfl⟩
    · repeat (first | refine awp_seq ?_ | refine then_n ?_ | refine then_r ?_ | refine then_x ?_ | refine block_n ?_ | refine block_r ?_ | refine block_x ?_ | refine u_y ?_ | refine loop_r ?_ | refine loop_x ?_ | refine awp_region ?_ | refine awpL_nil ?_ | refine awpQL_nil ?_ | refine awp_block ?_ | refine awp_skip ?_ | refine awp_exit ?_ | refine awp_label ?_ | refine u_dT ?_ | refine u_d ?_ | refine u_l ?_ | refine u_o ?_ | refine u_q ?_ | refine u_lr ?_ | refine u_qr ?_ | refine u_ls ?_ | refine u_qs ?_ | refine u_t ?_ | refine u_f ?_ | refine v_s ?_ | refine v_o ?_ | refine v_on ?_ | refine v_og ?_ | refine v_q ?_ | refine v_sr ?_ | refine v_k ?_ | refine m_nil ?_)
      refine hclM [] [(30000, 22)] c1 ?_
      refine hclM [] [(30000, 27)] c2 ?_
      refine m_t0 (X := []) (ids := [13, 17, 22, 27]) (sv := .agg [.d (.int .i64 s), .d (.int .i64 o), .own 22, .own 27]) (fun rest => opTo_of_qt (wa_buildS (by exact rfl) (by exact rfl) (by exact rfl) (by exact rfl)) rfl) ?_ rfl rfl (by simp [wantedA]) rfl rfl
      repeat (first | refine awp_seq ?_ | refine then_n ?_ | refine then_r ?_ | refine then_x ?_ | refine block_n ?_ | refine block_r ?_ | refine block_x ?_ | refine u_y ?_ | refine loop_r ?_ | refine loop_x ?_ | refine awp_region ?_ | refine awpL_nil ?_ | refine awpQL_nil ?_ | refine awp_block ?_ | refine awp_skip ?_ | refine awp_exit ?_ | refine awp_label ?_ | refine u_dT ?_ | refine u_d ?_ | refine u_l ?_ | refine u_o ?_ | refine u_q ?_ | refine u_lr ?_ | refine u_qr ?_ | refine u_ls ?_ | refine u_qs ?_ | refine u_t ?_ | refine u_f ?_ | refine v_s ?_ | refine v_o ?_ | refine v_on ?_ | refine v_og ?_ | refine v_q ?_ | refine v_sr ?_ | refine v_k ?_ | refine m_nil ?_)
      exact ⟨by ((repeat (first | exact trivial | (refine ⟨?_, ?_⟩; (focus (first | rfl | (simp [lk, argsS, args0]; done) | (simp [lk, argsS, args0]; omega))))))), perm_of_sort rfl⟩
  · repeat (first | refine awp_seq ?_ | refine then_n ?_ | refine then_r ?_ | refine then_x ?_ | refine block_n ?_ | refine block_r ?_ | refine block_x ?_ | refine u_y ?_ | refine loop_r ?_ | refine loop_x ?_ | refine awp_region ?_ | refine awpL_nil ?_ | refine awpQL_nil ?_ | refine awp_block ?_ | refine awp_skip ?_ | refine awp_exit ?_ | refine awp_label ?_ | refine u_dT ?_ | refine u_d ?_ | ((first | apply c_l | apply c_q | apply c_lr | apply c_qr); (iterate 2 exact rfl); (focus (first | exact e1)); (iterate 2 exact rfl)) | (apply v_c; (iterate 4 exact rfl); (focus (first | exact e1)); (iterate 2 exact rfl)) | refine u_l ?_ | refine u_o ?_ | refine u_q ?_ | refine u_lr ?_ | refine u_qr ?_ | refine u_ls ?_ | refine u_qs ?_ | refine u_t ?_ | refine u_f ?_ | refine v_s ?_ | refine v_o ?_ | refine v_on ?_ | refine v_og ?_ | refine v_q ?_ | refine v_sr ?_ | refine v_k ?_ | refine m_nil ?_)
    (try rw [hD])
    (try rw [hQ])
    (try rw [hL])
    (try rw [hI])
    have hlo : 0 ≤ l ∧ l < ou.length := by rw [heq]; exact hl
    by_cases hlt : i < o - 1
    · rw [if_pos hlt] at hX
      have e2 := spec_l07Other (i := i) (x := (row ou l).getD q.toNat 0) (by omega)
      have w2 := rws_set2 (xs := ou) (l := l) (q := q) (v := othr i (at2 ou l q)) hlo
      rw [hX]
      refine u_t ?_
      refine awp_carve0 27 l.toNat 300 rfl to rfl rfl rfl ?_
      repeat (first | refine awp_seq ?_ | refine then_n ?_ | refine then_r ?_ | refine then_x ?_ | refine block_n ?_ | refine block_r ?_ | refine block_x ?_ | refine u_y ?_ | refine loop_r ?_ | refine loop_x ?_ | refine awp_region ?_ | refine awpL_nil ?_ | refine awpQL_nil ?_ | refine awp_block ?_ | refine awp_skip ?_ | refine awp_exit ?_ | refine awp_label ?_ | refine u_dT ?_ | refine u_d ?_ | ((first | apply x_l | apply x_q | apply x_lr | apply x_qr); (focus (first | (apply wa_loadHole; (iterate 5 (focus (first | exact rfl | (first | assumption | omega | (simp; omega) | (simp; done) | rfl))))))); exact rfl) | ((first | apply c_l | apply c_q | apply c_lr | apply c_qr); (iterate 2 exact rfl); (focus (first | exact e2)); (iterate 2 exact rfl)) | (apply v_x; (iterate 2 exact rfl); (focus (intro ok0 nw hle; (first | (apply wa_loadHole; (iterate 5 (focus (first | exact rfl | (first | assumption | omega | (simp; omega) | (simp; done) | rfl)))))))); (iterate 2 exact rfl)) | (apply v_c; (iterate 4 exact rfl); (focus (first | exact e2)); (iterate 2 exact rfl)) | refine u_l ?_ | refine u_o ?_ | refine u_q ?_ | refine u_lr ?_ | refine u_qr ?_ | refine u_ls ?_ | refine u_qs ?_ | refine u_t ?_ | refine u_f ?_ | refine v_s ?_ | refine v_o ?_ | refine v_on ?_ | refine v_og ?_ | refine v_q ?_ | refine v_sr ?_ | refine v_k ?_ | refine m_nil ?_)
      refine awp_back 27 300 (by exact rfl) (by exact rfl) (by exact rfl) (by exact rfl) (by exact rfl) (by exact rfl) to (by simp) ?_
      refine awp_freeze 22 rfl rfl ?_
      refine awp_freeze 27 rfl rfl ?_
      (refine awp_ret ?_; (repeat (first | refine then_r ?_ | refine block_r ?_ | refine loop_r ?_)); apply ret_okC (.inr rfl); (focus exact rfl))
      show D.agg [.int .i64 s, .int .i64 o, .lst ((rws nx).map D.lst), .lst (((rws ou).set l.toNat (((row ou l).map (D.int .i64)).set q.toNat (.int .i64 (othr i (at2 ou l q))))).map D.lst)] = _
      rw [w2, rws_dat, rws_dat]
      rfl
    · rw [if_neg hlt] at hX
      have e2 := spec_l07Other (i := i - (o - 1)) (x := (row nx l).getD q.toNat 0) (by omega)
      have w1 := rws_set2 (xs := nx) (l := l) (q := q) (v := othr (i - (o - 1)) (at2 nx l q)) hl
      rw [hX]
      refine u_f ?_
      refine awp_carve0 22 l.toNat 300 rfl tn rfl rfl rfl ?_
      repeat (first | refine awp_seq ?_ | refine then_n ?_ | refine then_r ?_ | refine then_x ?_ | refine block_n ?_ | refine block_r ?_ | refine block_x ?_ | refine u_y ?_ | refine loop_r ?_ | refine loop_x ?_ | refine awp_region ?_ | refine awpL_nil ?_ | refine awpQL_nil ?_ | refine awp_block ?_ | refine awp_skip ?_ | refine awp_exit ?_ | refine awp_label ?_ | refine u_dT ?_ | refine u_d ?_ | ((first | apply x_l | apply x_q | apply x_lr | apply x_qr); (focus (first | (apply wa_loadHole; (iterate 5 (focus (first | exact rfl | (first | assumption | omega | (simp; omega) | (simp; done) | rfl))))))); exact rfl) | ((first | apply c_l | apply c_q | apply c_lr | apply c_qr); (iterate 2 exact rfl); (focus (first | exact e2)); (iterate 2 exact rfl)) | (apply v_x; (iterate 2 exact rfl); (focus (intro ok0 nw hle; (first | (apply wa_loadHole; (iterate 5 (focus (first | exact rfl | (first | assumption | omega | (simp; omega) | (simp; done) | rfl)))))))); (iterate 2 exact rfl)) | (apply v_c; (iterate 4 exact rfl); (focus (first | exact e2)); (iterate 2 exact rfl)) | refine u_l ?_ | refine u_o ?_ | refine u_q ?_ | refine u_lr ?_ | refine u_qr ?_ | refine u_ls ?_ | refine u_qs ?_ | refine u_t ?_ | refine u_f ?_ | refine v_s ?_ | refine v_o ?_ | refine v_on ?_ | refine v_og ?_ | refine v_q ?_ | refine v_sr ?_ | refine v_k ?_ | refine m_nil ?_)
      refine awp_back 22 300 (by exact rfl) (by exact rfl) (by exact rfl) (by exact rfl) (by exact rfl) (by exact rfl) tn (by simp) ?_
      refine awp_freeze 22 rfl rfl ?_
      refine awp_freeze 27 rfl rfl ?_
      (refine awp_ret ?_; (repeat (first | refine then_r ?_ | refine block_r ?_ | refine loop_r ?_)); apply ret_okC (.inr rfl); (focus exact rfl))
      show D.agg [.int .i64 s, .int .i64 o, .lst (((rws nx).set l.toNat (((row nx l).map (D.int .i64)).set q.toNat (.int .i64 (othr (i - (o - 1)) (at2 nx l q))))).map D.lst), .lst ((rws ou).map D.lst)] = _
      rw [w1, rws_dat, rws_dat]
      rfl
end Go.Proofs.Ytkaffmojojnhhaa
