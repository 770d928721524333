/- The law of Mutants. No condition. -/
import Derived.Test.YthcaccakbmooeaaKi
namespace Go.Proofs.Ythcaccakbmooeaa
open Go
attribute [local irreducible] awp awpL awpQL awpQ awpM pWalk Qt AC thenQ blockQ loopQ OpTo
set_option linter.unusedVariables false
set_option linter.unusedSimpArgs false
set_option maxHeartbeats 2000000
attribute [local irreducible] HC

theorem law_FnMutants {code more : List Int} (hb : BytesOk code) (hb2 : BytesOk more) : AC Try.prog 3 [u8s code, u8s more] (.bool true) := by
  have g1 := laws_f6big (code := code)
  have g2 := laws_f6big (code := more)
  by_cases c1 : (4096 : Int) < code.length
  · rw [decide_eq_true c1] at g1
    refine ac_intro tabIs _ Try.func3 rfl rfl Try.ntmps3 rfl rfl fun w0 ok0 => ?_
    repeat (first | refine awp_seq ?_ | refine then_n ?_ | refine then_r ?_ | refine then_x ?_ | refine block_n ?_ | refine block_r ?_ | refine block_x ?_ | refine u_y ?_ | refine loop_r ?_ | refine loop_x ?_ | refine awp_region ?_ | refine awpL_nil ?_ | refine awpQL_nil ?_ | refine awp_block ?_ | refine awp_skip ?_ | refine awp_exit ?_ | refine awp_label ?_ | refine u_dT ?_ | refine u_d ?_ | ((first | apply c_l | apply c_q | apply c_lr | apply c_qr); (iterate 2 exact rfl); (focus (first | exact g1)); (iterate 2 exact rfl)) | (apply v_c; (iterate 4 exact rfl); (focus (first | exact g1)); (iterate 2 exact rfl)) | refine u_l ?_ | refine u_o ?_ | refine u_q ?_ | refine u_lr ?_ | refine u_qr ?_ | refine u_ls ?_ | refine u_qs ?_ | refine u_t ?_ | refine u_f ?_ | refine v_s ?_ | refine v_o ?_ | refine v_on ?_ | refine v_og ?_ | refine v_q ?_ | refine v_sr ?_ | refine v_k ?_ | refine m_nil ?_)
    (refine awp_ret ?_; (repeat (first | refine then_r ?_ | refine block_r ?_ | refine loop_r ?_)); apply ret_ok (.inr rfl); (focus exact rfl))
    rfl
  rw [decide_eq_false c1] at g1
  by_cases c2 : (4096 : Int) < more.length
  · rw [decide_eq_true c2] at g2
    refine ac_intro tabIs _ Try.func3 rfl rfl Try.ntmps3 rfl rfl fun w0 ok0 => ?_
    repeat (first | refine awp_seq ?_ | refine then_n ?_ | refine then_r ?_ | refine then_x ?_ | refine block_n ?_ | refine block_r ?_ | refine block_x ?_ | refine u_y ?_ | refine loop_r ?_ | refine loop_x ?_ | refine awp_region ?_ | refine awpL_nil ?_ | refine awpQL_nil ?_ | refine awp_block ?_ | refine awp_skip ?_ | refine awp_exit ?_ | refine awp_label ?_ | refine u_dT ?_ | refine u_d ?_ | ((first | apply c_l | apply c_q | apply c_lr | apply c_qr); (iterate 2 exact rfl); (focus (first | exact g1 | exact g2)); (iterate 2 exact rfl)) | (apply v_c; (iterate 4 exact rfl); (focus (first | exact g1 | exact g2)); (iterate 2 exact rfl)) | refine u_l ?_ | refine u_o ?_ | refine u_q ?_ | refine u_lr ?_ | refine u_qr ?_ | refine u_ls ?_ | refine u_qs ?_ | refine u_t ?_ | refine u_f ?_ | refine v_s ?_ | refine v_o ?_ | refine v_on ?_ | refine v_og ?_ | refine v_q ?_ | refine v_sr ?_ | refine v_k ?_ | refine m_nil ?_)
    (refine awp_ret ?_; (repeat (first | refine then_r ?_ | refine block_r ?_ | refine loop_r ?_)); apply ret_ok (.inr rfl); (focus exact rfl))
    rfl
  rw [decide_eq_false c2] at g2
  have p1 := spec_P6Machine hb
  have m := mv_pmM hb
  generalize pmM code = M at *
  obtain ⟨s, o, nx, ou⟩ := M
  dsimp only at p1 m
  have hn := m.n1
  have hs := m.s1
  have ho := m.o1
  have heq := m.eq
  have p2 := spec_P6Suite (code := more) (s := s) (o := o) (nx := nx) (ou := ou) hb2 (by omega)
  have su := su_psM (n := nx.length) hb2 (by omega)
  generalize psM more nx.length = ws at *
  have p3 := impl_MutantCountV m
  have p3' := spec_MutantCountV m
  have p4 := impl_KilledByV m su
  have p4' := spec_KilledByV m su
  have hN := mutN_bounds m.s1 m.o1 m.n1.2
  have hkm := kilL_mem s o nx ou ws (mutN s o nx.length).toNat
  have hkl := kilL_len s o nx ou ws (mutN s o nx.length).toNat
  have pE := laws_f6ints (a := kilL s o nx ou ws (mutN s o nx.length).toNat) (b := kilL s o nx ou ws (mutN s o nx.length).toNat) (by omega) (by omega)
  rw [decide_eq_true rfl] at pE
  generalize kilL s o nx ou ws (mutN s o nx.length).toNat = L at *
  by_cases hz : mutN s o nx.length = 0
  · obtain ⟨rfl, rfl⟩ := mutN_zero hs.1 ho.1 hn.1 hz
    rw [hz] at p3 p3'
    refine ac_intro tabIs _ Try.func3 rfl rfl Try.ntmps3 rfl rfl fun w0 ok0 => ?_
    repeat (first | refine awp_seq ?_ | refine then_n ?_ | refine then_r ?_ | refine then_x ?_ | refine block_n ?_ | refine block_r ?_ | refine block_x ?_ | refine u_y ?_ | refine loop_r ?_ | refine loop_x ?_ | refine awp_region ?_ | refine awpL_nil ?_ | refine awpQL_nil ?_ | refine awp_block ?_ | refine awp_skip ?_ | refine awp_exit ?_ | refine awp_label ?_ | refine u_dT ?_ | refine u_d ?_ | ((first | apply c_l | apply c_q | apply c_lr | apply c_qr); (iterate 2 exact rfl); (focus (first | exact g1 | exact g2 | exact p1 | exact p2 | exact p3 | exact p3' | exact p4 | exact p4' | exact pE)); (iterate 2 exact rfl)) | (apply v_c; (iterate 4 exact rfl); (focus (first | exact g1 | exact g2 | exact p1 | exact p2 | exact p3 | exact p3' | exact p4 | exact p4' | exact pE)); (iterate 2 exact rfl)) | refine u_l ?_ | refine u_o ?_ | refine u_q ?_ | refine u_lr ?_ | refine u_qr ?_ | refine u_ls ?_ | refine u_qs ?_ | refine u_t ?_ | refine u_f ?_ | refine v_s ?_ | refine v_o ?_ | refine v_on ?_ | refine v_og ?_ | refine v_q ?_ | refine v_sr ?_ | refine v_k ?_ | refine m_nil ?_)
    (refine awp_ret ?_; (repeat (first | refine then_r ?_ | refine block_r ?_ | refine loop_r ?_)); apply ret_ok (.inr rfl); (focus exact rfl))
    rfl
  have p5 := spec_P6Pick (n := mutN s o nx.length) hb2 (by omega)
  have p6 := spec_P6Pick (n := mutN s o nx.length) hb (by omega)
  have hj := pick_range (s := ⟨0, 0⟩) (n := mutN s o nx.length) hb2 (by omega)
  have hk := pick_range (s := ⟨0, 0⟩) (n := mutN s o nx.length) hb (by omega)
  generalize pickV more (mutN s o nx.length) ⟨0, 0⟩ = j at *
  generalize pickV code (mutN s o nx.length) ⟨0, 0⟩ = k at *
  have p7 := impl_MutantAtV m hj
  have p8 := impl_MutantAtV m hk
  have p9 := spec_MutantAtV m hj
  obtain ⟨mj, hlj⟩ := mv_mut m hj
  obtain ⟨mk, hlk⟩ := mv_mut m hk
  have pS := spec_SameMachine (s := s) (o := o) (s' := s) (o' := o) mj.rnx mj.rou mj.rnx mj.rou
  rw [show sameM s o (mutX s o nx ou j).1 (mutX s o nx ou j).2 s o (mutX s o nx ou j).1 (mutX s o nx ou j).2 = true by simp [sameM]] at pS
  have pT := spec_SameMachine (s := s) (o := o) (s' := s) (o' := o) mj.rnx mj.rou mk.rnx mk.rou
  rw [show sameM s o (mutX s o nx ou j).1 (mutX s o nx ou j).2 s o (mutX s o nx ou k).1 (mutX s o nx ou k).2 = decide (j = k) by
    have hi := mutX_inj m hj hk
    by_cases c : j = k
    · subst c; simp [sameM]
    · rw [decide_eq_false c]
      have : ¬ ((mutX s o nx ou j).1 = (mutX s o nx ou k).1 ∧ (mutX s o nx ou j).2 = (mutX s o nx ou k).2) := fun h => c (hi (Prod.ext h.1 h.2))
      simp only [sameM, decide_true, Bool.true_and]
      rw [← Bool.decide_and]
      exact decide_eq_false this] at pT
  have pU := impl_PassesV m mj hlj su
  have hone := mutX_one m hj
  have hkj := hkm j
  have hkb : kilB s o nx ou ws j = decide (0 ≤ (failS nx ou (mutX s o nx ou j).1 (mutX s o nx ou j).2 0 ws).1) := rfl
  rw [hkb] at hkj
  generalize (failS nx ou (mutX s o nx ou j).1 (mutX s o nx ou j).2 0 ws).1 = F at *
  have rn := tbl_rown m.nx hs.1
  have ro := tbl_rown m.ou hs.1
  have rn' := tbl_rown mj.nx hs.1
  have ro' := tbl_rown mj.ou hs.1
  have hej := mj.eq
  generalize (mutX s o nx ou j).1 = X1 at *
  generalize (mutX s o nx ou j).2 = X2 at *
  generalize (mutX s o nx ou k).1 = Y1 at *
  generalize (mutX s o nx ou k).2 = Y2 at *
  generalize mutN s o nx.length = N at *
  refine ac_intro tabIs _ Try.func3 rfl rfl Try.ntmps3 rfl rfl fun w0 ok0 => ?_
  repeat (first | refine awp_seq ?_ | refine then_n ?_ | refine then_r ?_ | refine then_x ?_ | refine block_n ?_ | refine block_r ?_ | refine block_x ?_ | refine u_y ?_ | refine loop_r ?_ | refine loop_x ?_ | refine awp_region ?_ | refine awpL_nil ?_ | refine awpQL_nil ?_ | refine awp_block ?_ | refine awp_skip ?_ | refine awp_exit ?_ | refine awp_label ?_ | refine u_dT ?_ | refine u_d ?_ | ((first | apply c_l | apply c_q | apply c_lr | apply c_qr); (iterate 2 exact rfl); (focus (first | exact g1 | exact g2 | exact p1 | exact p2 | exact p3 | exact p3' | exact p4 | exact p4')); (iterate 2 exact rfl)) | (apply v_c; (iterate 4 exact rfl); (focus (first | exact g1 | exact g2 | exact p1 | exact p2 | exact p3 | exact p3' | exact p4 | exact p4')); (iterate 2 exact rfl)) | refine u_l ?_ | refine u_o ?_ | refine u_q ?_ | refine u_lr ?_ | refine u_qr ?_ | refine u_ls ?_ | refine u_qs ?_ | refine u_t ?_ | refine u_f ?_ | refine v_s ?_ | refine v_o ?_ | refine v_on ?_ | refine v_og ?_ | refine v_q ?_ | refine v_sr ?_ | refine v_k ?_ | refine m_nil ?_)
  rw [decide_eq_true (rfl : N = N)]
  repeat (first | refine awp_seq ?_ | refine then_n ?_ | refine then_r ?_ | refine then_x ?_ | refine block_n ?_ | refine block_r ?_ | refine block_x ?_ | refine u_y ?_ | refine loop_r ?_ | refine loop_x ?_ | refine awp_region ?_ | refine awpL_nil ?_ | refine awpQL_nil ?_ | refine awp_block ?_ | refine awp_skip ?_ | refine awp_exit ?_ | refine awp_label ?_ | refine u_dT ?_ | refine u_d ?_ | ((first | apply c_l | apply c_q | apply c_lr | apply c_qr); (iterate 2 exact rfl); (focus (first | exact pE | exact p5 | exact p6 | exact p7 | exact p8 | exact p9 | exact pS | exact pT)); (iterate 2 exact rfl)) | (apply v_c; (iterate 4 exact rfl); (focus (first | exact pE | exact p5 | exact p6 | exact p7 | exact p8 | exact p9 | exact pS | exact pT)); (iterate 2 exact rfl)) | refine u_l ?_ | refine u_o ?_ | refine u_q ?_ | refine u_lr ?_ | refine u_qr ?_ | refine u_ls ?_ | refine u_qs ?_ | refine u_t ?_ | refine u_f ?_ | refine v_s ?_ | refine v_o ?_ | refine v_on ?_ | refine v_og ?_ | refine v_q ?_ | refine v_sr ?_ | refine v_k ?_ | refine m_nil ?_)
  have hle : (List.map ints nx).length = nx.length := by simp
  refine awp_permTo [(5, .box [.d (.int .i64 s), .d (.int .i64 o), .d (rows nx), .d (rows ou)]), (17, .box [.d (.int .i64 s), .d (.int .i64 o), .d (rows X1), .d (rows X2)]), (19, .box [.d (.int .i64 s), .d (.int .i64 o), .d (rows Y1), .d (rows Y2)]), (21, .box [.d (.int .i64 s), .d (.int .i64 o), .d (rows X1), .d (rows X2)])] (by as_aux_lemma => kernel_rfl) ?_
  refine awp_loop (fun i : Nat => i ≤ nx.length) (fun i => [(5, .ref 5 0), (6, .d (rows ws)), (13, .d (ints L)), (15, .d (.int .i64 j)), (21, .ref 21 0), (23, .d (.int .i64 (dAll nx X1 s.toNat i + dAll ou X2 s.toNat i : Nat))), (24, .d (.int .i64 i))]) (fun i => [(5, .box [.d (.int .i64 s), .d (.int .i64 o), .d (rows nx), .d (rows ou)]), (17, .box [.d (.int .i64 s), .d (.int .i64 o), .d (rows X1), .d (rows X2)]), (19, .box [.d (.int .i64 s), .d (.int .i64 o), .d (rows Y1), .d (rows Y2)]), (21, .box [.d (.int .i64 s), .d (.int .i64 o), .d (rows X1), .d (rows X2)])])
    (fun i => nx.length - i) 0 (by omega) ?_ rfl ?_
  · ((repeat (first | exact trivial | (refine ⟨?_, ?_⟩; (focus (first | rfl | (simp [lk, argsS, args0]; done) | (simp [lk, argsS, args0]; omega)))))))
  · intro i hi
    have b1 := dAll_le nx X1 s.toNat i
    have b2 := dAll_le ou X2 s.toNat i
    have b3 : s.toNat * i ≤ 30 := Nat.le_trans (Nat.mul_le_mul (show s.toNat ≤ 10 by omega) (show i ≤ 3 by omega)) (by decide)
    by_cases hlt : i < nx.length
    · have h1 : i < X1.length := by omega
      have h2 : i < ou.length := by omega
      have h3 : i < X2.length := by omega
      have x1 := el_row hlt
      have x2 := el_row h1
      have x3 := el_row h2
      have x4 := el_row h3
      have l1 := rn i (by omega)
      have l2 := rn' i (by omega)
      have l3 := ro i (by omega)
      have l4 := ro' i (by omega)
      have hst : dAll nx X1 s.toNat (i + 1) + dAll ou X2 s.toNat (i + 1) = dAll nx X1 s.toNat i + dAll ou X2 s.toNat i + dRow nx[i] X1[i] s.toNat + dRow ou[i] X2[i] s.toNat := by
        show dAll nx X1 s.toNat i + dRow (nx.getD i []) (X1.getD i []) s.toNat + (dAll ou X2 s.toNat i + dRow (ou.getD i []) (X2.getD i []) s.toNat) = _
        simp only [List.getD_eq_getElem?_getD, List.getElem?_eq_getElem hlt, List.getElem?_eq_getElem h1, List.getElem?_eq_getElem h2, List.getElem?_eq_getElem h3, Option.getD_some]
        omega
      rw [show row nx i = nx[i] by simp [row, List.getD_eq_getElem?_getD, hlt]] at l1
      rw [show row X1 i = X1[i] by simp [row, List.getD_eq_getElem?_getD, h1]] at l2
      rw [show row ou i = ou[i] by simp [row, List.getD_eq_getElem?_getD, h2]] at l3
      rw [show row X2 i = X2[i] by simp [row, List.getD_eq_getElem?_getD, h3]] at l4
      generalize nx[i] = r1 at *
      generalize X1[i] = r2 at *
      generalize ou[i] = r3 at *
      generalize X2[i] = r4 at *
      generalize hdd : dAll nx X1 s.toNat (i + 1) + dAll ou X2 s.toNat (i + 1) = dd' at *
      have b4 : dAll nx X1 s.toNat i + dAll ou X2 s.toNat i ≤ 60 := by omega
      generalize dAll nx X1 s.toNat i + dAll ou X2 s.toNat i = dd at *
      repeat (first | refine awp_seq ?_ | refine then_n ?_ | refine then_r ?_ | refine then_x ?_ | refine block_n ?_ | refine block_r ?_ | refine block_x ?_ | refine u_y ?_ | refine loop_r ?_ | refine loop_x ?_ | refine awp_region ?_ | refine awpL_nil ?_ | refine awpQL_nil ?_ | refine awp_block ?_ | refine awp_skip ?_ | refine awp_exit ?_ | refine awp_label ?_ | refine u_dT ?_ | refine u_d ?_ | refine u_l ?_ | refine u_o ?_ | refine u_q ?_ | refine u_lr ?_ | refine u_qr ?_ | refine u_ls ?_ | refine u_qs ?_ | refine u_t ?_ | refine u_f ?_ | refine v_s ?_ | refine v_o ?_ | refine v_on ?_ | refine v_og ?_ | refine v_q ?_ | refine v_sr ?_ | refine v_k ?_ | refine m_nil ?_)
      refine awp_loop (fun q : Nat => q ≤ s.toNat) (fun q => [(5, .ref 5 0), (6, .d (rows ws)), (13, .d (ints L)), (15, .d (.int .i64 j)), (21, .ref 21 0), (23, .d (.int .i64 (dd + dRow r1 r2 q + dRow r3 r4 q : Nat))), (24, .d (.int .i64 i)), (25, .d (.int .i64 q))]) (fun q => [(5, .box [.d (.int .i64 s), .d (.int .i64 o), .d (rows nx), .d (rows ou)]), (17, .box [.d (.int .i64 s), .d (.int .i64 o), .d (rows X1), .d (rows X2)]), (19, .box [.d (.int .i64 s), .d (.int .i64 o), .d (rows Y1), .d (rows Y2)]), (21, .box [.d (.int .i64 s), .d (.int .i64 o), .d (rows X1), .d (rows X2)])])
        (fun q => s.toNat - q) 0 (by omega) ?_ rfl ?_
      · ((repeat (first | exact trivial | (refine ⟨?_, ?_⟩; (focus (first | rfl | (simp [lk, argsS, args0]; done) | (simp [lk, argsS, args0]; omega)))))))
      · intro q hq
        have b5 := dRow_le r1 r2 q
        have b6 := dRow_le r3 r4 q
        have hle1 : (List.map (D.int .i64) r1).length = r1.length := by simp
        by_cases hqt : q < s.toNat
        · have k1 : q < r1.length := by omega
          have k2 : q < r2.length := by omega
          have k3 : q < r3.length := by omega
          have k4 : q < r4.length := by omega
          have y1 := el_int k1
          have y2 := el_int k2
          have y3 := el_int k3
          have y4 := el_int k4
          have hs1 : dRow r1 r2 (q + 1) = dRow r1 r2 q + if r2[q] = r1[q] then 0 else 1 := by
            show dRow r1 r2 q + (if r2.getD q 0 = r1.getD q 0 then 0 else 1) = _
            simp only [List.getD_eq_getElem?_getD, List.getElem?_eq_getElem k1, List.getElem?_eq_getElem k2, Option.getD_some]
          have hs2 : dRow r3 r4 (q + 1) = dRow r3 r4 q + if r4[q] = r3[q] then 0 else 1 := by
            show dRow r3 r4 q + (if r4.getD q 0 = r3.getD q 0 then 0 else 1) = _
            simp only [List.getD_eq_getElem?_getD, List.getElem?_eq_getElem k3, List.getElem?_eq_getElem k4, Option.getD_some]
          generalize r1[q] = v1 at *
          generalize r2[q] = v2 at *
          generalize r3[q] = v3 at *
          generalize r4[q] = v4 at *
          by_cases d1 : v2 = v1 <;> by_cases d2 : v4 = v3
          all_goals
            first | rw [if_pos d1] at hs1 | rw [if_neg d1] at hs1
            first | rw [if_pos d2] at hs2 | rw [if_neg d2] at hs2
            generalize dRow r1 r2 q = e1 at *
            generalize dRow r3 r4 q = e2 at *
            repeat (first | refine awp_seq ?_ | refine then_n ?_ | refine then_r ?_ | refine then_x ?_ | refine block_n ?_ | refine block_r ?_ | refine block_x ?_ | refine u_y ?_ | refine loop_r ?_ | refine loop_x ?_ | refine awp_region ?_ | refine awpL_nil ?_ | refine awpQL_nil ?_ | refine awp_block ?_ | refine awp_skip ?_ | refine awp_exit ?_ | refine awp_label ?_ | refine u_dT ?_ | refine u_d ?_ | refine u_l ?_ | refine u_o ?_ | refine u_q ?_ | refine u_lr ?_ | refine u_qr ?_ | refine u_ls ?_ | refine u_qs ?_ | refine u_t ?_ | refine u_f ?_ | refine v_s ?_ | refine v_o ?_ | refine v_on ?_ | refine v_og ?_ | refine v_q ?_ | refine v_sr ?_ | refine v_k ?_ | refine m_nil ?_)
            refine loop_n (q + 1) (by omega) ?_ rfl (by omega)
            rw [hs1, hs2]
            ((repeat (first | exact trivial | (refine ⟨?_, ?_⟩; (focus (first | rfl | (simp [lk, argsS, args0]; done) | (simp [lk, argsS, args0]; omega)))))))
        · have hqe : q = s.toNat := by omega
          subst hqe
          rw [← hst]
          repeat (first | refine awp_seq ?_ | refine then_n ?_ | refine then_r ?_ | refine then_x ?_ | refine block_n ?_ | refine block_r ?_ | refine block_x ?_ | refine u_y ?_ | refine loop_r ?_ | refine loop_x ?_ | refine awp_region ?_ | refine awpL_nil ?_ | refine awpQL_nil ?_ | refine awp_block ?_ | refine awp_skip ?_ | refine awp_exit ?_ | refine awp_label ?_ | refine u_dT ?_ | refine u_d ?_ | refine u_l ?_ | refine u_o ?_ | refine u_q ?_ | refine u_lr ?_ | refine u_qr ?_ | refine u_ls ?_ | refine u_qs ?_ | refine u_t ?_ | refine u_f ?_ | refine v_s ?_ | refine v_o ?_ | refine v_on ?_ | refine v_og ?_ | refine v_q ?_ | refine v_sr ?_ | refine v_k ?_ | refine m_nil ?_)
          refine loop_n (i + 1) (by omega) ?_ rfl (by omega)
          rw [hdd]
          ((repeat (first | exact trivial | (refine ⟨?_, ?_⟩; (focus (first | rfl | (simp [lk, argsS, args0]; done) | (simp [lk, argsS, args0]; omega)))))))
    · have hie : i = nx.length := by omega
      subst hie
      rw [hone]
      repeat (first | refine awp_seq ?_ | refine then_n ?_ | refine then_r ?_ | refine then_x ?_ | refine block_n ?_ | refine block_r ?_ | refine block_x ?_ | refine u_y ?_ | refine loop_r ?_ | refine loop_x ?_ | refine awp_region ?_ | refine awpL_nil ?_ | refine awpQL_nil ?_ | refine awp_block ?_ | refine awp_skip ?_ | refine awp_exit ?_ | refine awp_label ?_ | refine u_dT ?_ | refine u_d ?_ | ((first | apply c_l | apply c_q | apply c_lr | apply c_qr); (iterate 2 exact rfl); (focus (first | exact pU)); (iterate 2 exact rfl)) | (apply v_c; (iterate 4 exact rfl); (focus (first | exact pU)); (iterate 2 exact rfl)) | refine u_l ?_ | refine u_o ?_ | refine u_q ?_ | refine u_lr ?_ | refine u_qr ?_ | refine u_ls ?_ | refine u_qs ?_ | refine u_t ?_ | refine u_f ?_ | refine v_s ?_ | refine v_o ?_ | refine v_on ?_ | refine v_og ?_ | refine v_q ?_ | refine v_sr ?_ | refine v_k ?_ | refine m_nil ?_)
      have hl0 : L.length ≤ 331 := by omega
      have hle2 : (List.map (D.int .i64) L).length = L.length := by simp
      refine awp_loop (fun i : Nat => i ≤ L.length) (fun i => [(13, .d (ints L)), (15, .d (.int .i64 j)), (23, .d (.int .i64 1)), (26, .d (.bool (decide (F < 0)))), (27, .d (.int .i64 0)), (28, .d (.bool (fnd L j i))), (29, .d (.int .i64 i))]) (fun i => [(5, .box [.d (.int .i64 s), .d (.int .i64 o), .d (rows nx), .d (rows ou)]), (17, .box [.d (.int .i64 s), .d (.int .i64 o), .d (rows X1), .d (rows X2)]), (19, .box [.d (.int .i64 s), .d (.int .i64 o), .d (rows Y1), .d (rows Y2)]), (21, .box [.d (.int .i64 s), .d (.int .i64 o), .d (rows X1), .d (rows X2)])])
        (fun i => L.length - i) 0 (by omega) ?_ rfl ?_
      · ((repeat (first | exact trivial | (refine ⟨?_, ?_⟩; (focus (first | rfl | (simp [lk, argsS, args0]; done) | (simp [lk, argsS, args0]; omega)))))))
      · intro i hi
        by_cases hlt : i < L.length
        · have hx := el_int hlt
          have f1 := fnd_succ (k := j) hlt
          generalize fnd L j i = b1 at f1 ⊢
          cases b1
          all_goals
            repeat (first | refine awp_seq ?_ | refine then_n ?_ | refine then_r ?_ | refine then_x ?_ | refine block_n ?_ | refine block_r ?_ | refine block_x ?_ | refine u_y ?_ | refine loop_r ?_ | refine loop_x ?_ | refine awp_region ?_ | refine awpL_nil ?_ | refine awpQL_nil ?_ | refine awp_block ?_ | refine awp_skip ?_ | refine awp_exit ?_ | refine awp_label ?_ | refine u_dT ?_ | refine u_d ?_ | refine u_l ?_ | refine u_o ?_ | refine u_q ?_ | refine u_lr ?_ | refine u_qr ?_ | refine u_ls ?_ | refine u_qs ?_ | refine u_t ?_ | refine u_f ?_ | refine v_s ?_ | refine v_o ?_ | refine v_on ?_ | refine v_og ?_ | refine v_q ?_ | refine v_sr ?_ | refine v_k ?_ | refine m_nil ?_)
            refine loop_n (i + 1) (by omega) ?_ rfl (by omega)
            rw [f1]
            simp only [Bool.false_or, Bool.true_or]
            ((repeat (first | exact trivial | (refine ⟨?_, ?_⟩; (focus (first | rfl | (simp [lk, argsS, args0]; done) | (simp [lk, argsS, args0]; omega)))))))
        · have hie : i = L.length := by omega
          subst hie
          rw [fnd_all, decide_eq_decide.2 hkj]
          by_cases hF : F < 0
          · rw [decide_eq_true hF, decide_eq_false (by rintro ⟨_, h⟩; have := of_decide_eq_true h; omega)]
            repeat (first | refine awp_seq ?_ | refine then_n ?_ | refine then_r ?_ | refine then_x ?_ | refine block_n ?_ | refine block_r ?_ | refine block_x ?_ | refine u_y ?_ | refine loop_r ?_ | refine loop_x ?_ | refine awp_region ?_ | refine awpL_nil ?_ | refine awpQL_nil ?_ | refine awp_block ?_ | refine awp_skip ?_ | refine awp_exit ?_ | refine awp_label ?_ | refine u_dT ?_ | refine u_d ?_ | refine u_l ?_ | refine u_o ?_ | refine u_q ?_ | refine u_lr ?_ | refine u_qr ?_ | refine u_ls ?_ | refine u_qs ?_ | refine u_t ?_ | refine u_f ?_ | refine v_s ?_ | refine v_o ?_ | refine v_on ?_ | refine v_og ?_ | refine v_q ?_ | refine v_sr ?_ | refine v_k ?_ | refine m_nil ?_)
            (refine awp_ret ?_; (repeat (first | refine then_r ?_ | refine block_r ?_ | refine loop_r ?_)); apply ret_ok (.inr rfl); (focus exact rfl))
            rfl
          · rw [decide_eq_false hF, decide_eq_true (show (0 ≤ j ∧ j < _) ∧ _ from ⟨by omega, decide_eq_true (by omega)⟩)]
            repeat (first | refine awp_seq ?_ | refine then_n ?_ | refine then_r ?_ | refine then_x ?_ | refine block_n ?_ | refine block_r ?_ | refine block_x ?_ | refine u_y ?_ | refine loop_r ?_ | refine loop_x ?_ | refine awp_region ?_ | refine awpL_nil ?_ | refine awpQL_nil ?_ | refine awp_block ?_ | refine awp_skip ?_ | refine awp_exit ?_ | refine awp_label ?_ | refine u_dT ?_ | refine u_d ?_ | refine u_l ?_ | refine u_o ?_ | refine u_q ?_ | refine u_lr ?_ | refine u_qr ?_ | refine u_ls ?_ | refine u_qs ?_ | refine u_t ?_ | refine u_f ?_ | refine v_s ?_ | refine v_o ?_ | refine v_on ?_ | refine v_og ?_ | refine v_q ?_ | refine v_sr ?_ | refine v_k ?_ | refine m_nil ?_)
            (refine awp_ret ?_; (repeat (first | refine then_r ?_ | refine block_r ?_ | refine loop_r ?_)); apply ret_ok (.inr rfl); (focus exact rfl))
            rfl

end Go.Proofs.Ythcaccakbmooeaa
