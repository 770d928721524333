/- The program's machine whose states are picked, for all states. No condition. -/
import Derived.Test.YtkaffmojojnhhaaNa
namespace Go.Proofs.Ytkaffmojojnhhaa
open Go
attribute [local irreducible] awp awpL awpQL awpQ awpM pWalk Qt AC thenQ blockQ loopQ OpTo
set_option linter.unusedVariables false
set_option linter.unusedSimpArgs false
set_option maxHeartbeats 2000000
attribute [local irreducible] HC

theorem impl_mutId {q : Int} : AC Try.prog 101 [.int .i64 q] (.int .i64 q) := by
  refine ac_intro tabIs _ Try.func101 rfl rfl Try.ntmps101 rfl rfl fun w0 ok0 => ?_
  repeat (first | refine awp_seq ?_ | refine then_n ?_ | refine then_r ?_ | refine then_x ?_ | refine block_n ?_ | refine block_r ?_ | refine block_x ?_ | refine u_y ?_ | refine loop_r ?_ | refine loop_x ?_ | refine awp_region ?_ | refine awpL_nil ?_ | refine awpQL_nil ?_ | refine awp_block ?_ | refine awp_skip ?_ | refine awp_exit ?_ | refine awp_label ?_ | refine u_dT ?_ | refine u_d ?_ | refine u_l ?_ | refine u_o ?_ | refine u_q ?_ | refine u_lr ?_ | refine u_qr ?_ | refine u_ls ?_ | refine u_qs ?_ | refine u_t ?_ | refine u_f ?_ | refine v_s ?_ | refine v_o ?_ | refine v_on ?_ | refine v_og ?_ | refine v_q ?_ | refine v_sr ?_ | refine v_k ?_ | refine m_nil ?_)
  (refine awp_ret ?_; (repeat (first | refine then_r ?_ | refine block_r ?_ | refine loop_r ?_)); apply ret_ok (.inr rfl); (focus exact rfl))
  rfl

theorem ints_take {ns : List Int} {k : Nat} (hk : k < ns.length) : (ns.take k).map (D.int .i64) ++ [.int .i64 ns[k]] = (ns.take (k + 1)).map (D.int .i64) := by
  rw [List.take_succ_eq_append_getElem hk, List.map_append]
  rfl

theorem impl_pickedH {s o : Int} {nx ou : List (List Int)} (m : MV s o nx ou) :
    HC Try.prog 98 [.d (mach s o nx ou), .d (ints (mk1 0 s.toNat)), .d (.fn 101 [])] [] (.agg [.d (.int .i64 s), .d (.int .i64 o), .own 30000, .own 30001])
      [(30000, .rows 26 2 1 (rws nx) none), (30001, .rows 26 2 1 (rws ou) none)] := by
  have hs1 := m.s1
  have hn1 := m.n1
  have heq := m.eq
  have hL : (mk1 0 s.toNat).length = s.toNat := mk1_length _ _
  have hsz := impl_size1 (ns := mk1 0 s.toNat)
  rw [hL, show ((s.toNat : Nat) : Int) = s by omega] at hsz
  have hg : ∀ i : Nat, i < s.toNat → (List.map (D.int .i64) (mk1 0 s.toNat))[(i : Int).toNat]? = some (.int .i64 i) := fun i hi => by simp [mk1_get s.toNat 0 i hi]
  have hm : (List.map (D.int .i64) (mk1 0 s.toNat)).length = s.toNat := by simp [hL]
  have mm1 : (List.map ints nx).length = nx.length := by simp
  refine hc_intro tabIs _ Try.func98 rfl rfl Try.ntmps98 rfl rfl rfl ?_ fun w0 ok0 XM XA anc => ?_
  · exact likeIn_nil
  repeat (first | refine awp_seq ?_ | refine then_n ?_ | refine then_r ?_ | refine then_x ?_ | refine block_n ?_ | refine block_r ?_ | refine block_x ?_ | refine u_y ?_ | refine loop_r ?_ | refine loop_x ?_ | refine awp_region ?_ | refine awpL_nil ?_ | refine awpQL_nil ?_ | refine awp_block ?_ | refine awp_skip ?_ | refine awp_exit ?_ | refine awp_label ?_ | refine u_l ?_ | refine u_o ?_ | refine u_q ?_ | refine u_lr ?_ | refine u_qr ?_ | refine u_ls ?_ | refine u_qs ?_ | refine u_t ?_ | refine u_f ?_ | refine v_s ?_ | refine v_o ?_ | refine v_on ?_ | refine v_og ?_ | refine v_q ?_ | refine v_sr ?_ | refine v_k ?_ | refine m_nil ?_)
  refine u_m [(5, [7]), (6, [7])] (.tk [7] [0, 1, 2, 3, 4] (.tk [] [5, 6] .done)) ?_
  repeat (first | refine awp_seq ?_ | refine then_n ?_ | refine then_r ?_ | refine then_x ?_ | refine block_n ?_ | refine block_r ?_ | refine block_x ?_ | refine u_y ?_ | refine loop_r ?_ | refine loop_x ?_ | refine awp_region ?_ | refine awpL_nil ?_ | refine awpQL_nil ?_ | refine awp_block ?_ | refine awp_skip ?_ | refine awp_exit ?_ | refine awp_label ?_ | refine u_dT ?_ | refine u_d ?_ | ((first | apply c_l | apply c_q | apply c_lr | apply c_qr); (iterate 2 exact rfl); (focus (first | exact hsz)); (iterate 2 exact rfl)) | (apply v_c; (iterate 4 exact rfl); (focus (first | exact hsz)); (iterate 2 exact rfl)) | refine u_l ?_ | refine u_o ?_ | refine u_q ?_ | refine u_lr ?_ | refine u_qr ?_ | refine u_ls ?_ | refine u_qs ?_ | refine u_t ?_ | refine u_f ?_ | refine v_s ?_ | refine v_o ?_ | refine v_on ?_ | refine v_og ?_ | refine v_q ?_ | refine v_sr ?_ | refine v_k ?_ | refine m_nil ?_)
  refine awp_nilCell 7 2 300 26 1 (by exact rfl) (by exact rfl) rfl rfl rfl ?_
  refine awp_toRows 300 2 1 rfl rfl rfl rfl ?_
  refine awp_nilCell 7 3 301 26 1 (by exact rfl) (by exact rfl) rfl rfl rfl ?_
  refine awp_toRows 301 2 1 rfl rfl rfl rfl ?_
  generalize mk1 0 s.toNat = L at *
  refine awp_perm [(6, .box [.d (.int .i64 0), .d (.int .i64 0), .d .nils, .d .nils]), (7, .box [.d (.int .i64 s), .d (.int .i64 o), .own 300, .own 301]), (300, .rows 26 2 1 [] none), (301, .rows 26 2 1 [] none)] rfl ?_
  refine awp_loop (fun k : Nat => k ≤ nx.length) (fun k => [(1, .d (ints L)), (2, .d (.fn 101 [])), (3, .d (.ptr (mach s o nx ou))), (6, .ref 6 0), (7, .ref 7 0), (20, .d (.int .i64 nx.length)), (21, .d (.int .i64 k))])
    (fun k => [(6, .box [.d (.int .i64 0), .d (.int .i64 0), .d .nils, .d .nils]), (7, .box [.d (.int .i64 s), .d (.int .i64 o), .own 300, .own 301]), (300, .rows 26 2 1 (rws (nx.take k)) none), (301, .rows 26 2 1 (rws (ou.take k)) none)]) (fun k => nx.length - k) 0 (by omega) ?_ rfl ?_
  · exact ⟨rfl, rfl, rfl, rfl, rfl, congrArg (fun n : Nat => SV.d (.int .i64 n)) mm1, rfl, trivial⟩
  · intro k hk
    have hrl1 : (rws (nx.take k)).length = k := by rw [rws_length]; simp; omega
    have hrl2 : (rws (ou.take k)).length = k := by rw [rws_length]; simp; omega
    by_cases hlt : k < nx.length
    · have hkl : 0 ≤ (k : Int) ∧ (k : Int) < nx.length := by omega
      have hko : 0 ≤ (k : Int) ∧ (k : Int) < ou.length := by omega
      have rl1 : ((row nx k).length : Int) = s := tbl_row m.nx hkl
      have rl2 : ((row ou k).length : Int) = s := tbl_row m.ou hko
      have g1 := el_row2 (xs := nx) hkl
      have g2 := el_row2 (xs := ou) hko
      have x1 : row nx k = nx[k] := by simp [row, List.getD_eq_getElem?_getD, hlt]
      have x2 : row ou k = ou[k]'(by omega) := by simp [row, List.getD_eq_getElem?_getD, show k < ou.length by omega]
      have t1 := rws_take hlt
      have t2 := rws_take (nss := ou) (k := k) (by omega)
      repeat (first | refine v_w (t := 25) ?_ | refine v_w (t := 24) ?_ | refine awp_seq ?_ | refine then_n ?_ | refine then_r ?_ | refine then_x ?_ | refine block_n ?_ | refine block_r ?_ | refine block_x ?_ | refine u_y ?_ | refine loop_r ?_ | refine loop_x ?_ | refine awp_region ?_ | refine awpL_nil ?_ | refine awpQL_nil ?_ | refine awp_block ?_ | refine awp_skip ?_ | refine awp_exit ?_ | refine awp_label ?_ | refine u_dT ?_ | refine u_d ?_ | refine u_w (t := 24) ?_ | refine u_w (t := 25) ?_ | refine u_l ?_ | refine u_o ?_ | refine u_q ?_ | refine u_lr ?_ | refine u_qr ?_ | refine u_ls ?_ | refine u_qs ?_ | refine u_t ?_ | refine u_f ?_ | refine v_s ?_ | refine v_o ?_ | refine v_on ?_ | refine v_og ?_ | refine v_q ?_ | refine v_sr ?_ | refine v_k ?_ | refine m_nil ?_)
      refine awp_loop (fun i : Nat => (i : Int) ≤ s) (fun i => [(1, .d (ints L)), (2, .d (.fn 101 [])), (3, .d (.ptr (mach s o nx ou))), (6, .ref 6 0), (7, .ref 7 0), (8, .d (.int .i64 k)), (9, .own 24), (10, .own 25), (20, .d (.int .i64 nx.length)), (21, .d (.int .i64 k)), (26, .d (ints L)), (27, .d (.int .i64 s)), (28, .d (.int .i64 i))])
        (fun i => [(25, .arr 2 1 (((row ou k).take i).map (.int .i64))), (24, .arr 2 1 (((row nx k).take i).map (.int .i64))), (6, .box [.d (.int .i64 0), .d (.int .i64 0), .d .nils, .d .nils]), (7, .box [.d (.int .i64 s), .d (.int .i64 o), .own 300, .own 301]), (300, .rows 26 2 1 (rws (nx.take k)) none), (301, .rows 26 2 1 (rws (ou.take k)) none)]) (fun i => s.toNat - i) 0 (by omega) ?_ rfl ?_
      · ((repeat (first | exact trivial | (refine ⟨?_, ?_⟩; (focus (first | rfl | (simp [lk, argsS, args0]; done) | (simp [lk, argsS, args0]; omega)))))))
      · intro i hi
        by_cases hli : (i : Int) < s
        · have hgi := hg i (by omega)
          have y1 := el_int2 (ns := row nx k) (q := (i : Int)) (by omega)
          have y2 := el_int2 (ns := row ou k) (q := (i : Int)) (by omega)
          have z1 := ints_take (ns := row nx k) (k := i) (by omega)
          have z2 := ints_take (ns := row ou k) (k := i) (by omega)
          have w1 : (row nx k).getD (i : Int).toNat 0 = (row nx k)[i]'(by omega) := by simp [List.getD_eq_getElem?_getD, show i < (row nx k).length by omega]
          have w2 : (row ou k).getD (i : Int).toNat 0 = (row ou k)[i]'(by omega) := by simp [List.getD_eq_getElem?_getD, show i < (row ou k).length by omega]
          have l1 : (((row nx k).take i).map (D.int .i64)).length = i := by simp; omega
          have l2 : (((row ou k).take i).map (D.int .i64)).length = i := by simp; omega
          have cid := impl_mutId (q := (row nx k).getD (i : Int).toNat 0)
          rw [w1] at y1 cid
          rw [w2] at y2
          repeat (first | refine awp_seq ?_ | refine then_n ?_ | refine then_r ?_ | refine then_x ?_ | refine block_n ?_ | refine block_r ?_ | refine block_x ?_ | refine u_y ?_ | refine loop_r ?_ | refine loop_x ?_ | refine awp_region ?_ | refine awpL_nil ?_ | refine awpQL_nil ?_ | refine awp_block ?_ | refine awp_skip ?_ | refine awp_exit ?_ | refine awp_label ?_ | refine u_l ?_ | refine u_o ?_ | refine u_q ?_ | refine u_lr ?_ | refine u_qr ?_ | refine u_ls ?_ | refine u_qs ?_ | refine u_t ?_ | refine u_f ?_ | refine v_s ?_ | refine v_o ?_ | refine v_on ?_ | refine v_og ?_ | refine v_q ?_ | refine v_sr ?_ | refine v_k ?_ | refine m_nil ?_)
          refine u_m [(12, [24]), (23, [25])] (.tk [] [0, 1, 2, 3, 4, 5, 6, 7, 8, 9, 10, 11, 12] (.tk [24] [13, 14, 15, 16, 17, 18, 19, 20, 21, 22] (.tk [] [23, 24, 25] .done))) ?_
          repeat (first | refine awp_seq ?_ | refine then_n ?_ | refine then_r ?_ | refine then_x ?_ | refine block_n ?_ | refine block_r ?_ | refine block_x ?_ | refine u_y ?_ | refine loop_r ?_ | refine loop_x ?_ | refine awp_region ?_ | refine awpL_nil ?_ | refine awpQL_nil ?_ | refine awp_block ?_ | refine awp_skip ?_ | refine awp_exit ?_ | refine awp_label ?_ | refine u_dT ?_ | refine u_d ?_ | ((first | apply c_l | apply c_q | apply c_lr | apply c_qr); (iterate 2 exact rfl); (focus (first | exact cid)); (iterate 2 exact rfl)) | (apply v_c; (iterate 4 exact rfl); (focus (first | exact cid)); (iterate 2 exact rfl)) | refine u_l ?_ | refine u_o ?_ | refine u_q ?_ | refine u_lr ?_ | refine u_qr ?_ | refine u_ls ?_ | refine u_qs ?_ | refine u_t ?_ | refine u_f ?_ | refine v_s ?_ | refine v_o ?_ | refine v_on ?_ | refine v_og ?_ | refine v_q ?_ | refine v_sr ?_ | refine v_k ?_ | refine m_nil ?_)
          refine loop_n (i + 1) (by omega) ?_ ?_ (by omega)
          · ((repeat (first | exact trivial | (refine ⟨?_, ?_⟩; (focus (first | rfl | (simp [lk, argsS, args0]; done) | (simp [lk, argsS, args0]; omega)))))))
          · rw [← z1, ← z2]; rfl
        · have hi' : i = s.toNat := by omega
          subst hi'
          have q1 : (row nx k).take s.toNat = row nx k := List.take_of_length_le (by omega)
          have q2 : (row ou k).take s.toNat = row ou k := List.take_of_length_le (by omega)
          rw [q1, q2]
          repeat (first | refine awp_seq ?_ | refine then_n ?_ | refine then_r ?_ | refine then_x ?_ | refine block_n ?_ | refine block_r ?_ | refine block_x ?_ | refine u_y ?_ | refine loop_r ?_ | refine loop_x ?_ | refine awp_region ?_ | refine awpL_nil ?_ | refine awpQL_nil ?_ | refine awp_block ?_ | refine awp_skip ?_ | refine awp_exit ?_ | refine awp_label ?_ | refine u_l ?_ | refine u_o ?_ | refine u_q ?_ | refine u_lr ?_ | refine u_qr ?_ | refine u_ls ?_ | refine u_qs ?_ | refine u_t ?_ | refine u_f ?_ | refine v_s ?_ | refine v_o ?_ | refine v_on ?_ | refine v_og ?_ | refine v_q ?_ | refine v_sr ?_ | refine v_k ?_ | refine m_nil ?_)
          refine u_mJ [(3, [60, 24]), (4, [60, 300]), (8, [65, 25]), (9, [65, 301]), (11, [7]), (13, [7])]
            (.tk [60, 24, 65, 25] [0, 1] (.tk [65, 25] [2] (.tk [60, 24, 300, 65, 25] [5, 6] (.tk [60, 24, 300] [7] (.fork 3 8 (.fork 4 8 (.tk [60, 24, 300, 65, 25, 301] [8, 9, 10, 11, 12, 13] .done) (.tk [60, 24, 300, 65, 25, 301] [4, 9, 10, 11, 12, 13] .done)) (.tk [60, 24, 300, 65, 25, 301] [3, 4, 9, 10, 11, 12, 13] .done))))))
            [(1, .d (ints L)), (2, .d (.fn 101 [])), (3, .d (.ptr (mach s o nx ou))), (6, .ref 6 0), (7, .ref 7 0), (20, .d (.int .i64 nx.length)), (21, .d (.int .i64 k))]
            [(6, .box [.d (.int .i64 0), .d (.int .i64 0), .d .nils, .d .nils]), (7, .box [.d (.int .i64 s), .d (.int .i64 o), .own 300, .own 301]), (300, .rows 26 2 1 (rws (nx.take k) ++ [(row nx k).map (.int .i64)]) none), (301, .rows 26 2 1 (rws (ou.take k) ++ [(row ou k).map (.int .i64)]) none)] ?_ ?_
          · repeat (first | refine awp_seq ?_ | refine then_n ?_ | refine then_r ?_ | refine then_x ?_ | refine block_n ?_ | refine block_r ?_ | refine block_x ?_ | refine u_y ?_ | refine loop_r ?_ | refine loop_x ?_ | refine awp_region ?_ | refine awpL_nil ?_ | refine awpQL_nil ?_ | refine awp_block ?_ | refine awp_skip ?_ | refine awp_exit ?_ | refine awp_label ?_ | refine u_dT ?_ | refine u_d ?_ | refine u_l ?_ | refine u_o ?_ | refine u_q ?_ | refine u_lr ?_ | refine u_qr ?_ | refine u_ls ?_ | refine u_qs ?_ | refine u_t ?_ | refine u_f ?_ | refine v_s ?_ | refine v_o ?_ | refine v_on ?_ | refine v_og ?_ | refine v_q ?_ | refine v_sr ?_ | refine v_k ?_ | refine m_nil ?_)
            refine m_fork ?_ ?_
            · repeat (first | refine awp_seq ?_ | refine then_n ?_ | refine then_r ?_ | refine then_x ?_ | refine block_n ?_ | refine block_r ?_ | refine block_x ?_ | refine u_y ?_ | refine loop_r ?_ | refine loop_x ?_ | refine awp_region ?_ | refine awpL_nil ?_ | refine awpQL_nil ?_ | refine awp_block ?_ | refine awp_skip ?_ | refine awp_exit ?_ | refine awp_label ?_ | refine u_dT ?_ | refine u_d ?_ | refine u_l ?_ | refine u_o ?_ | refine u_q ?_ | refine u_lr ?_ | refine u_qr ?_ | refine u_ls ?_ | refine u_qs ?_ | refine u_t ?_ | refine u_f ?_ | refine v_s ?_ | refine v_o ?_ | refine v_on ?_ | refine v_og ?_ | refine v_q ?_ | refine v_sr ?_ | refine v_k ?_ | refine m_nil ?_)
              refine m_fork ?_ ?_
              · repeat (first | refine awp_seq ?_ | refine then_n ?_ | refine then_r ?_ | refine then_x ?_ | refine block_n ?_ | refine block_r ?_ | refine block_x ?_ | refine u_y ?_ | refine loop_r ?_ | refine loop_x ?_ | refine awp_region ?_ | refine awpL_nil ?_ | refine awpQL_nil ?_ | refine awp_block ?_ | refine awp_skip ?_ | refine awp_exit ?_ | refine awp_label ?_ | refine u_dT ?_ | refine u_d ?_ | refine u_l ?_ | refine u_o ?_ | refine u_q ?_ | refine u_lr ?_ | refine u_qr ?_ | refine u_ls ?_ | refine u_qs ?_ | refine u_t ?_ | refine u_f ?_ | refine v_s ?_ | refine v_o ?_ | refine v_on ?_ | refine v_og ?_ | refine v_q ?_ | refine v_sr ?_ | refine v_k ?_ | refine m_nil ?_)
                exact ⟨by ((repeat (first | exact trivial | (refine ⟨?_, ?_⟩; (focus (first | rfl | (simp [lk, argsS, args0]; done) | (simp [lk, argsS, args0]; omega))))))), perm_of_sort rfl⟩
              · repeat (first | refine awp_seq ?_ | refine then_n ?_ | refine then_r ?_ | refine then_x ?_ | refine block_n ?_ | refine block_r ?_ | refine block_x ?_ | refine u_y ?_ | refine loop_r ?_ | refine loop_x ?_ | refine awp_region ?_ | refine awpL_nil ?_ | refine awpQL_nil ?_ | refine awp_block ?_ | refine awp_skip ?_ | refine awp_exit ?_ | refine awp_label ?_ | refine u_dT ?_ | refine u_d ?_ | refine u_l ?_ | refine u_o ?_ | refine u_q ?_ | refine u_lr ?_ | refine u_qr ?_ | refine u_ls ?_ | refine u_qs ?_ | refine u_t ?_ | refine u_f ?_ | refine v_s ?_ | refine v_o ?_ | refine v_on ?_ | refine v_og ?_ | refine v_q ?_ | refine v_sr ?_ | refine v_k ?_ | refine m_nil ?_)
                exact ⟨by ((repeat (first | exact trivial | (refine ⟨?_, ?_⟩; (focus (first | rfl | (simp [lk, argsS, args0]; done) | (simp [lk, argsS, args0]; omega))))))), perm_of_sort rfl⟩
            · repeat (first | refine awp_seq ?_ | refine then_n ?_ | refine then_r ?_ | refine then_x ?_ | refine block_n ?_ | refine block_r ?_ | refine block_x ?_ | refine u_y ?_ | refine loop_r ?_ | refine loop_x ?_ | refine awp_region ?_ | refine awpL_nil ?_ | refine awpQL_nil ?_ | refine awp_block ?_ | refine awp_skip ?_ | refine awp_exit ?_ | refine awp_label ?_ | refine u_dT ?_ | refine u_d ?_ | refine u_l ?_ | refine u_o ?_ | refine u_q ?_ | refine u_lr ?_ | refine u_qr ?_ | refine u_ls ?_ | refine u_qs ?_ | refine u_t ?_ | refine u_f ?_ | refine v_s ?_ | refine v_o ?_ | refine v_on ?_ | refine v_og ?_ | refine v_q ?_ | refine v_sr ?_ | refine v_k ?_ | refine m_nil ?_)
              exact ⟨by ((repeat (first | exact trivial | (refine ⟨?_, ?_⟩; (focus (first | rfl | (simp [lk, argsS, args0]; done) | (simp [lk, argsS, args0]; omega))))))), perm_of_sort rfl⟩
          · rw [x1, x2, ← t1, ← t2]
            repeat (first | refine awp_seq ?_ | refine then_n ?_ | refine then_r ?_ | refine then_x ?_ | refine block_n ?_ | refine block_r ?_ | refine block_x ?_ | refine u_y ?_ | refine loop_r ?_ | refine loop_x ?_ | refine awp_region ?_ | refine awpL_nil ?_ | refine awpQL_nil ?_ | refine awp_block ?_ | refine awp_skip ?_ | refine awp_exit ?_ | refine awp_label ?_ | refine u_dT ?_ | refine u_d ?_ | refine u_l ?_ | refine u_o ?_ | refine u_q ?_ | refine u_lr ?_ | refine u_qr ?_ | refine u_ls ?_ | refine u_qs ?_ | refine u_t ?_ | refine u_f ?_ | refine v_s ?_ | refine v_o ?_ | refine v_on ?_ | refine v_og ?_ | refine v_q ?_ | refine v_sr ?_ | refine v_k ?_ | refine m_nil ?_)
            refine loop_n (k + 1) (by omega) ?_ rfl (by omega)
            ((repeat (first | exact trivial | (refine ⟨?_, ?_⟩; (focus (first | rfl | (simp [lk, argsS, args0]; done) | (simp [lk, argsS, args0]; omega)))))))
    · have hk' : k = nx.length := by omega
      subst hk'
      have q1 : ou.take nx.length = ou := List.take_of_length_le (by omega)
      rw [q1, List.take_length]
      repeat (first | refine awp_seq ?_ | refine then_n ?_ | refine then_r ?_ | refine then_x ?_ | refine block_n ?_ | refine block_r ?_ | refine block_x ?_ | refine u_y ?_ | refine loop_r ?_ | refine loop_x ?_ | refine awp_region ?_ | refine awpL_nil ?_ | refine awpQL_nil ?_ | refine awp_block ?_ | refine awp_skip ?_ | refine awp_exit ?_ | refine awp_label ?_ | refine u_dT ?_ | refine u_d ?_ | refine u_l ?_ | refine u_o ?_ | refine u_q ?_ | refine u_lr ?_ | refine u_qr ?_ | refine u_ls ?_ | refine u_qs ?_ | refine u_t ?_ | refine u_f ?_ | refine v_s ?_ | refine v_o ?_ | refine v_on ?_ | refine v_og ?_ | refine v_q ?_ | refine v_sr ?_ | refine v_k ?_ | refine m_nil ?_)
      (refine awp_ret ?_; (repeat (first | refine then_r ?_ | refine block_r ?_ | refine loop_r ?_)); refine u_rH [(300, 30000), (301, 30001)] ?_ ?_)
      · rfl
      · rfl
end Go.Proofs.Ytkaffmojojnhhaa
