/- Texts of machines: the program reads what it writes. Condition: the variables of strconv are laid. -/
import Derived.Test.YtffmlijngfhhaaaGreatDoorMz
namespace Go.Proofs.YtffmlijngfhhaaaGreatDoor
open Go
attribute [local irreducible] awp awpL awpQL awpQ awpM pWalk Qt AC thenQ blockQ loopQ OpTo
set_option linter.unusedVariables false
set_option linter.unusedSimpArgs false
set_option maxHeartbeats 2000000
attribute [local irreducible] HC
open Go.Lib (itoa)

theorem impl_ReadMachine {s o : Int} {nx ou : List (List Int)} (m : MV s o nx ou) : AC Tryz.prog 18 [.str (mtx s o nx ou)] (.tup [mach s o nx ou, .int .i64 0]) := by
  have hs1 := m.s1
  have ho1 := m.o1
  have hn1 := m.n1
  have heq := m.eq
  have htl := mtx_len m nx.length
  rw [List.take_of_length_le (by unfold mrw; simp; omega)] at htl
  have htl : (mtx s o nx ou).length ≤ 404 := htl
  have hml : (mrw nx ou).length = nx.length := by unfold mrw; simp; omega
  have e1 := impl_tableLines (t := mtx s o nx ou) (by omega)
  rw [tlN_mtx m, tlR_mtx m] at e1
  have e2 := strings_Cut (l := mtx s o nx ou) (b := 10) (by omega)
  rw [cut_mtx m] at e2
  have hhl := hed_len (s := s) (o := o) (nx := nx) hs1 ho1 hn1.2
  have e3 := impl_numbersBehind (l := linT mchT [s, o, (nx.length : Int)]) (by omega)
  rw [nums_head m] at e3
  have e4 := impl_ValidMachine (s := s) (o := o) m.rnx m.rou
  rw [machOk_mv m] at e4
  have e5 := impl_MachineText m
  have hwD : ∀ k (hk : k < nx.length), ((mrw nx ou).map wbD)[((k : Nat) : Int).toNat]? = some (.lst ((((row nx k).zip (row ou k)).map prT).map .str)) := fun k hk => by
    obtain ⟨_, e⟩ := mrw_get m (k := k) (by omega)
    rw [Int.toNat_natCast, List.getElem?_map, List.getElem?_eq_getElem (by omega), e]
    show some (D.lst ((wbh _).map .str)) = _
    rw [wbh_row m hk]
  have hwl : ((mrw nx ou).map wbD).length = nx.length := by rw [List.length_map, hml]
  generalize (mrw nx ou).map wbD = W at *
  generalize linT mchT [s, o, (nx.length : Int)] = hd at *
  generalize cutB 10 (mtx s o nx ou) = cB at *
  generalize mtx s o nx ou = tx at *
  have hx3 : ([s, o, (nx.length : Int)].map (D.int .i64))[((1 : Int)).toNat]? = some (.int .i64 o) := rfl
  have hl3 : ([s, o, (nx.length : Int)].map (D.int .i64)).length = 3 := rfl
  have hl4 : [s, o, (nx.length : Int)].length = 3 := rfl
  generalize [s, o, (nx.length : Int)] = ns at *
  unfold mach at *
  refine ac_introC tabIs _ Tryz.func18 rfl rfl Tryz.ntmps18 rfl rfl fun w0 ok0 he0 => ?_
  repeat (first | refine awp_seq ?_ | refine then_n ?_ | refine then_r ?_ | refine then_x ?_ | refine block_n ?_ | refine block_r ?_ | refine block_x ?_ | refine u_y ?_ | refine loop_r ?_ | refine loop_x ?_ | refine awp_region ?_ | refine awpL_nil ?_ | refine awpQL_nil ?_ | refine awp_block ?_ | refine awp_skip ?_ | refine awp_exit ?_ | refine awp_label ?_ | refine u_dT ?_ | refine u_d ?_ | ((first | apply c_l | apply c_q | apply c_lr | apply c_qr); (iterate 2 exact rfl); (focus (first | exact e1 | exact e2 | exact e3)); (iterate 2 exact rfl)) | (apply v_c; (iterate 4 exact rfl); (focus (first | exact e1 | exact e2 | exact e3)); (iterate 2 exact rfl)) | refine u_l ?_ | refine u_o ?_ | refine u_q ?_ | refine u_lr ?_ | refine u_qr ?_ | refine u_ls ?_ | refine u_qs ?_ | refine u_t ?_ | refine u_f ?_ | refine v_s ?_ | refine v_o ?_ | refine v_on ?_ | refine v_og ?_ | refine v_q ?_ | refine v_sr ?_ | refine v_k ?_ | refine m_nil ?_)
  refine awp_nilCell 6 2 300 27 1 (by exact rfl) (by exact rfl) rfl rfl rfl ?_
  refine awp_toRows 300 2 1 rfl rfl rfl rfl ?_
  refine awp_nilCell 6 3 301 27 1 (by exact rfl) (by exact rfl) rfl rfl rfl ?_
  refine awp_toRows 301 2 1 rfl rfl rfl rfl ?_
  refine awp_sub (s' := [(0, .d (.str tx)), (2, .ref 2 0), (6, .ref 6 0), (50, .d (.lst W)), (51, .d (.int .i64 W.length)), (52, .d (.int .i64 0))]) (by ((repeat (first | exact trivial | (refine ⟨?_, ?_⟩; (focus (first | rfl | (simp [lk, argsS, args0]; done) | (simp [lk, argsS, args0]; omega)))))))) ?_
  refine awp_permTo [(2, .box [.d (.int .i64 0), .d (.int .i64 0), .d .nils, .d .nils]), (6, .box [.d (.int .i64 s), .d (.int .i64 o), .own 300, .own 301]), (300, .rows 27 2 1 [] none), (301, .rows 27 2 1 [] none)] rfl ?_
  refine awp_loop (fun k : Nat => k ≤ nx.length) (fun k => [(0, .d (.str tx)), (2, .ref 2 0), (6, .ref 6 0), (50, .d (.lst W)), (51, .d (.int .i64 W.length)), (52, .d (.int .i64 k))])
    (fun k => [(2, .box [.d (.int .i64 0), .d (.int .i64 0), .d .nils, .d .nils]), (6, .box [.d (.int .i64 s), .d (.int .i64 o), .own 300, .own 301]), (300, .rows 27 2 1 (rws (nx.take k)) none), (301, .rows 27 2 1 (rws (ou.take k)) none)]) (fun k => nx.length - k) 0 (by omega) ?_ rfl ?_
  · ((repeat (first | exact trivial | (refine ⟨?_, ?_⟩; (focus (first | rfl | (simp [lk, argsS, args0]; done) | (simp [lk, argsS, args0]; omega)))))))
  · intro k hk
    have hrl1 : (rws (nx.take k)).length = k := by rw [rws_length]; simp; omega
    have hrl2 : (rws (ou.take k)).length = k := by rw [rws_length]; simp; omega
    by_cases hlt : k < nx.length
    · have hkl : 0 ≤ (k : Int) ∧ (k : Int) < nx.length := by omega
      have hko : 0 ≤ (k : Int) ∧ (k : Int) < ou.length := by omega
      have rl1 : ((row nx k).length : Int) = s := tbl_row m.nx hkl
      have rl2 : ((row ou k).length : Int) = s := tbl_row m.ou hko
      have hx := hwD k hlt
      have x1 : row nx k = nx[k] := row_eq hlt
      have x2 : row ou k = ou[k]'(by omega) := row_eq (by omega)
      have t1 := rws_take hlt
      have t2 := rws_take (nss := ou) (k := k) (by omega)
      have hzl : ((row nx k).zip (row ou k)).length = s.toNat := by rw [List.length_zip]; omega
      have hzm : ((((row nx k).zip (row ou k)).map prT).map D.str).length = s.toNat := by rw [List.length_map, List.length_map, hzl]
      have hzg : ∀ i : Nat, (i : Int) < s → ((((row nx k).zip (row ou k)).map prT).map D.str)[((i : Nat) : Int).toNat]? = some (.str (prT ((row nx k).getD ((i : Int)).toNat 0, (row ou k).getD ((i : Int)).toNat 0))) := fun i hi => by
        rw [Int.toNat_natCast, List.getElem?_map, List.getElem?_map, List.getElem?_eq_getElem (by omega)]
        simp [List.getD_eq_getElem?_getD, show i < (row nx k).length by omega, show i < (row ou k).length by omega]
      have hrb := fun i (hi : ((i : Nat) : Int) < s) => row_bnd m (i := i) hlt hi
      generalize (((row nx k).zip (row ou k)).map prT).map D.str = PD at *
      repeat (first | refine v_w (t := 57) ?_ | refine v_w (t := 56) ?_ | refine awp_seq ?_ | refine then_n ?_ | refine then_r ?_ | refine then_x ?_ | refine block_n ?_ | refine block_r ?_ | refine block_x ?_ | refine u_y ?_ | refine loop_r ?_ | refine loop_x ?_ | refine awp_region ?_ | refine awpL_nil ?_ | refine awpQL_nil ?_ | refine awp_block ?_ | refine awp_skip ?_ | refine awp_exit ?_ | refine awp_label ?_ | refine u_dT ?_ | refine u_d ?_ | refine u_w (t := 56) ?_ | refine u_w (t := 57) ?_ | refine u_l ?_ | refine u_o ?_ | refine u_q ?_ | refine u_lr ?_ | refine u_qr ?_ | refine u_ls ?_ | refine u_qs ?_ | refine u_t ?_ | refine u_f ?_ | refine v_s ?_ | refine v_o ?_ | refine v_on ?_ | refine v_og ?_ | refine v_q ?_ | refine v_sr ?_ | refine v_k ?_ | refine m_nil ?_)
      refine awp_loop (fun i : Nat => (i : Int) ≤ s) (fun i => [(0, .d (.str tx)), (2, .ref 2 0), (6, .ref 6 0), (13, .own 56), (14, .own 57), (50, .d (.lst W)), (51, .d (.int .i64 W.length)), (52, .d (.int .i64 k)), (58, .d (.lst PD)), (59, .d (.int .i64 PD.length)), (60, .d (.int .i64 i))])
        (fun i => [(57, .arr 2 1 (((row ou k).take i).map (.int .i64))), (56, .arr 2 1 (((row nx k).take i).map (.int .i64))), (2, .box [.d (.int .i64 0), .d (.int .i64 0), .d .nils, .d .nils]), (6, .box [.d (.int .i64 s), .d (.int .i64 o), .own 300, .own 301]), (300, .rows 27 2 1 (rws (nx.take k)) none), (301, .rows 27 2 1 (rws (ou.take k)) none)]) (fun i => s.toNat - i) 0 (by omega) ?_ rfl ?_
      · ((repeat (first | exact trivial | (refine ⟨?_, ?_⟩; (focus (first | rfl | (simp [lk, argsS, args0]; done) | (simp [lk, argsS, args0]; omega)))))))
      · intro i hi
        by_cases hli : (i : Int) < s
        · have hy := hzg i hli
          obtain ⟨b1, b2⟩ := hrb i hli
          have z1 := ints_take (ns := row nx k) (k := i) (by omega)
          have z2 := ints_take (ns := row ou k) (k := i) (by omega)
          have w1 : (row nx k).getD (i : Int).toNat 0 = (row nx k)[i]'(by omega) := by simp [List.getD_eq_getElem?_getD, show i < (row nx k).length by omega]
          have w2 : (row ou k).getD (i : Int).toNat 0 = (row ou k)[i]'(by omega) := by simp [List.getD_eq_getElem?_getD, show i < (row ou k).length by omega]
          have l1 : (((row nx k).take i).map (D.int .i64)).length = i := by simp; omega
          have l2 : (((row ou k).take i).map (D.int .i64)).length = i := by simp; omega
          have l3 : ((row nx k).take i).length = i := by simp; omega
          have l4 : ((row ou k).take i).length = i := by simp; omega
          rw [← w1] at z1
          rw [← w2] at z2
          clear w1 w2
          generalize (row nx k).getD (i : Int).toNat 0 = x at *
          generalize (row ou k).getD (i : Int).toNat 0 = y at *
          have hpl : (prT (x, y)).length ≤ 7 := prT_len (p := (x, y)) ⟨b1.1, by show x ≤ 999; omega⟩ ⟨b2.1, by show y ≤ 999; omega⟩
          obtain ⟨p1, p2⟩ := pint_prT (p := (x, y)) ⟨b1.1, by show x ≤ 999; omega⟩ ⟨b2.1, by show y ≤ 999; omega⟩
          dsimp only at p1 p2
          have c1 := strings_Cut (l := prT (x, y)) (b := 47) (by omega)
          have cl1 := cutA_le 47 (prT (x, y))
          have cl2 := cutB_le 47 (prT (x, y))
          have c2 := strconv_ParseInt (l := cutA 47 (prT (x, y))) (by omega)
          have c3 := strconv_ParseInt (l := cutB 47 (prT (x, y))) (by omega)
          rw [p1] at c2
          rw [p2] at c3
          generalize cutA 47 (prT (x, y)) = ca at *
          generalize cutB 47 (prT (x, y)) = cb at *
          generalize prT (x, y) = pw at *
          repeat (first | refine awp_seq ?_ | refine then_n ?_ | refine then_r ?_ | refine then_x ?_ | refine block_n ?_ | refine block_r ?_ | refine block_x ?_ | refine u_y ?_ | refine loop_r ?_ | refine loop_x ?_ | refine awp_region ?_ | refine awpL_nil ?_ | refine awpQL_nil ?_ | refine awp_block ?_ | refine awp_skip ?_ | refine awp_exit ?_ | refine awp_label ?_ | refine u_dT ?_ | refine u_d ?_ | ((first | apply c_l | apply c_q | apply c_lr | apply c_qr); (iterate 2 exact rfl); (focus (first | exact c1)); (iterate 2 exact rfl)) | (apply v_c; (iterate 4 exact rfl); (focus (first | exact c1)); (iterate 2 exact rfl)) | refine u_l ?_ | refine u_o ?_ | refine u_q ?_ | refine u_lr ?_ | refine u_qr ?_ | refine u_ls ?_ | refine u_qs ?_ | refine u_t ?_ | refine u_f ?_ | refine v_s ?_ | refine v_o ?_ | refine v_on ?_ | refine v_og ?_ | refine v_q ?_ | refine v_sr ?_ | refine v_k ?_ | refine m_nil ?_)
          refine hcl [] [] c2 ?_
          repeat (first | refine awp_seq ?_ | refine then_n ?_ | refine then_r ?_ | refine then_x ?_ | refine block_n ?_ | refine block_r ?_ | refine block_x ?_ | refine u_y ?_ | refine loop_r ?_ | refine loop_x ?_ | refine awp_region ?_ | refine awpL_nil ?_ | refine awpQL_nil ?_ | refine awp_block ?_ | refine awp_skip ?_ | refine awp_exit ?_ | refine awp_label ?_ | refine u_dT ?_ | refine u_d ?_ | refine u_l ?_ | refine u_o ?_ | refine u_q ?_ | refine u_lr ?_ | refine u_qr ?_ | refine u_ls ?_ | refine u_qs ?_ | refine u_t ?_ | refine u_f ?_ | refine v_s ?_ | refine v_o ?_ | refine v_on ?_ | refine v_og ?_ | refine v_q ?_ | refine v_sr ?_ | refine v_k ?_ | refine m_nil ?_)
          refine hcl [] [] c3 ?_
          repeat (first | refine awp_seq ?_ | refine then_n ?_ | refine then_r ?_ | refine then_x ?_ | refine block_n ?_ | refine block_r ?_ | refine block_x ?_ | refine u_y ?_ | refine loop_r ?_ | refine loop_x ?_ | refine awp_region ?_ | refine awpL_nil ?_ | refine awpQL_nil ?_ | refine awp_block ?_ | refine awp_skip ?_ | refine awp_exit ?_ | refine awp_label ?_ | refine u_dT ?_ | refine u_d ?_ | refine u_l ?_ | refine u_o ?_ | refine u_q ?_ | refine u_lr ?_ | refine u_qr ?_ | refine u_ls ?_ | refine u_qs ?_ | refine u_t ?_ | refine u_f ?_ | refine v_s ?_ | refine v_o ?_ | refine v_on ?_ | refine v_og ?_ | refine v_q ?_ | refine v_sr ?_ | refine v_k ?_ | refine m_nil ?_)
          refine loop_n (i + 1) (by omega) ?_ ?_ (by omega)
          · ((repeat (first | exact trivial | (refine ⟨?_, ?_⟩; (focus (first | rfl | (simp [lk, argsS, args0]; done) | (simp [lk, argsS, args0]; omega)))))))
          · rw [← z1, ← z2]; rfl
        · have hi' : i = s.toNat := by omega
          subst hi'
          have q1 : (row nx k).take s.toNat = row nx k := List.take_of_length_le (by omega)
          have q2 : (row ou k).take s.toNat = row ou k := List.take_of_length_le (by omega)
          rw [q1, q2]
          repeat (first | refine awp_seq ?_ | refine then_n ?_ | refine then_r ?_ | refine then_x ?_ | refine block_n ?_ | refine block_r ?_ | refine block_x ?_ | refine u_y ?_ | refine loop_r ?_ | refine loop_x ?_ | refine awp_region ?_ | refine awpL_nil ?_ | refine awpQL_nil ?_ | refine awp_block ?_ | refine awp_skip ?_ | refine awp_exit ?_ | refine awp_label ?_ | refine u_l ?_ | refine u_o ?_ | refine u_q ?_ | refine u_lr ?_ | refine u_qr ?_ | refine u_ls ?_ | refine u_qs ?_ | refine u_t ?_ | refine u_f ?_ | refine v_s ?_ | refine v_o ?_ | refine v_on ?_ | refine v_og ?_ | refine v_q ?_ | refine v_sr ?_ | refine v_k ?_ | refine m_nil ?_)
          refine u_mJ [(3, [92, 56]), (4, [92, 300]), (8, [97, 57]), (9, [97, 301]), (11, [6]), (13, [6])]
            (.tk [92, 56, 97, 57] [0, 1] (.tk [97, 57] [2] (.tk [92, 56, 300, 97, 57] [5, 6] (.tk [92, 56, 300] [7] (.fork 3 8 (.fork 4 8 (.tk [92, 56, 300, 97, 57, 301] [8, 9, 10, 11, 12, 13] .done) (.tk [92, 56, 300, 97, 57, 301] [4, 9, 10, 11, 12, 13] .done)) (.tk [92, 56, 300, 97, 57, 301] [3, 4, 9, 10, 11, 12, 13] .done))))))
            [(0, .d (.str tx)), (2, .ref 2 0), (6, .ref 6 0), (50, .d (.lst W)), (51, .d (.int .i64 W.length)), (52, .d (.int .i64 k))]
            [(2, .box [.d (.int .i64 0), .d (.int .i64 0), .d .nils, .d .nils]), (6, .box [.d (.int .i64 s), .d (.int .i64 o), .own 300, .own 301]), (300, .rows 27 2 1 (rws (nx.take k) ++ [(row nx k).map (.int .i64)]) none), (301, .rows 27 2 1 (rws (ou.take k) ++ [(row ou k).map (.int .i64)]) none)] ?_ ?_
          · repeat (first | refine awp_seq ?_ | refine then_n ?_ | refine then_r ?_ | refine then_x ?_ | refine block_n ?_ | refine block_r ?_ | refine block_x ?_ | refine u_y ?_ | refine loop_r ?_ | refine loop_x ?_ | refine awp_region ?_ | refine awpL_nil ?_ | refine awpQL_nil ?_ | refine awp_block ?_ | refine awp_skip ?_ | refine awp_exit ?_ | refine awp_label ?_ | refine u_dT ?_ | refine u_d ?_ | refine u_l ?_ | refine u_o ?_ | refine u_q ?_ | refine u_lr ?_ | refine u_qr ?_ | refine u_ls ?_ | refine u_qs ?_ | refine u_t ?_ | refine u_f ?_ | refine v_s ?_ | refine v_o ?_ | refine v_on ?_ | refine v_og ?_ | refine v_q ?_ | refine v_sr ?_ | refine v_k ?_ | refine m_nil ?_)
            refine m_fork ?_ ?_
            · repeat (first | refine awp_seq ?_ | refine then_n ?_ | refine then_r ?_ | refine then_x ?_ | refine block_n ?_ | refine block_r ?_ | refine block_x ?_ | refine u_y ?_ | refine loop_r ?_ | refine loop_x ?_ | refine awp_region ?_ | refine awpL_nil ?_ | refine awpQL_nil ?_ | refine awp_block ?_ | refine awp_skip ?_ | refine awp_exit ?_ | refine awp_label ?_ | refine u_dT ?_ | refine u_d ?_ | refine u_l ?_ | refine u_o ?_ | refine u_q ?_ | refine u_lr ?_ | refine u_qr ?_ | refine u_ls ?_ | refine u_qs ?_ | refine u_t ?_ | refine u_f ?_ | refine v_s ?_ | refine v_o ?_ | refine v_on ?_ | refine v_og ?_ | refine v_q ?_ | refine v_sr ?_ | refine v_k ?_ | refine m_nil ?_)
              refine m_fork ?_ ?_
              · repeat (first | refine awp_seq ?_ | refine then_n ?_ | refine then_r ?_ | refine then_x ?_ | refine block_n ?_ | refine block_r ?_ | refine block_x ?_ | refine u_y ?_ | refine loop_r ?_ | refine loop_x ?_ | refine awp_region ?_ | refine awpL_nil ?_ | refine awpQL_nil ?_ | refine awp_block ?_ | refine awp_skip ?_ | refine awp_exit ?_ | refine awp_label ?_ | refine u_dT ?_ | refine u_d ?_ | refine u_l ?_ | refine u_o ?_ | refine u_q ?_ | refine u_lr ?_ | refine u_qr ?_ | refine u_ls ?_ | refine u_qs ?_ | refine u_t ?_ | refine u_f ?_ | refine v_s ?_ | refine v_o ?_ | refine v_on ?_ | refine v_og ?_ | refine v_q ?_ | refine v_sr ?_ | refine v_k ?_ | refine m_nil ?_)
                exact ⟨by ((repeat (first | exact trivial | (refine ⟨?_, ?_⟩; (focus (first | rfl | (simp [lk, argsS, args0]; done) | (simp [lk, argsS, args0]; omega))))))), perm_of_sort rfl⟩
              · repeat (first | refine awp_seq ?_ | refine then_n ?_ | refine then_r ?_ | refine then_x ?_ | refine block_n ?_ | refine block_r ?_ | refine block_x ?_ | refine u_y ?_ | refine loop_r ?_ | refine loop_x ?_ | refine awp_region ?_ | refine awpL_nil ?_ | refine awpQL_nil ?_ | refine awp_block ?_ | refine awp_skip ?_ | refine awp_exit ?_ | refine awp_label ?_ | refine u_dT ?_ | refine u_d ?_ | refine u_l ?_ | refine u_o ?_ | refine u_q ?_ | refine u_lr ?_ | refine u_qr ?_ | refine u_ls ?_ | refine u_qs ?_ | refine u_t ?_ | refine u_f ?_ | refine v_s ?_ | refine v_o ?_ | refine v_on ?_ | refine v_og ?_ | refine v_q ?_ | refine v_sr ?_ | refine v_k ?_ | refine m_nil ?_)
                exact ⟨by ((repeat (first | exact trivial | (refine ⟨?_, ?_⟩; (focus (first | rfl | (simp [lk, argsS, args0]; done) | (simp [lk, argsS, args0]; omega))))))), perm_of_sort rfl⟩
            · repeat (first | refine awp_seq ?_ | refine then_n ?_ | refine then_r ?_ | refine then_x ?_ | refine block_n ?_ | refine block_r ?_ | refine block_x ?_ | refine u_y ?_ | refine loop_r ?_ | refine loop_x ?_ | refine awp_region ?_ | refine awpL_nil ?_ | refine awpQL_nil ?_ | refine awp_block ?_ | refine awp_skip ?_ | refine awp_exit ?_ | refine awp_label ?_ | refine u_dT ?_ | refine u_d ?_ | refine u_l ?_ | refine u_o ?_ | refine u_q ?_ | refine u_lr ?_ | refine u_qr ?_ | refine u_ls ?_ | refine u_qs ?_ | refine u_t ?_ | refine u_f ?_ | refine v_s ?_ | refine v_o ?_ | refine v_on ?_ | refine v_og ?_ | refine v_q ?_ | refine v_sr ?_ | refine v_k ?_ | refine m_nil ?_)
              exact ⟨by ((repeat (first | exact trivial | (refine ⟨?_, ?_⟩; (focus (first | rfl | (simp [lk, argsS, args0]; done) | (simp [lk, argsS, args0]; omega))))))), perm_of_sort rfl⟩
          · rw [x1, x2, ← t1, ← t2]
            repeat (first | refine awp_seq ?_ | refine then_n ?_ | refine then_r ?_ | refine then_x ?_ | refine block_n ?_ | refine block_r ?_ | refine block_x ?_ | refine u_y ?_ | refine loop_r ?_ | refine loop_x ?_ | refine awp_region ?_ | refine awpL_nil ?_ | refine awpQL_nil ?_ | refine awp_block ?_ | refine awp_skip ?_ | refine awp_exit ?_ | refine awp_label ?_ | refine u_dT ?_ | refine u_d ?_ | refine u_l ?_ | refine u_o ?_ | refine u_q ?_ | refine u_lr ?_ | refine u_qr ?_ | refine u_ls ?_ | refine u_qs ?_ | refine u_t ?_ | refine u_f ?_ | refine v_s ?_ | refine v_o ?_ | refine v_on ?_ | refine v_og ?_ | refine v_q ?_ | refine v_sr ?_ | refine v_k ?_ | refine m_nil ?_)
            refine loop_n (k + 1) (by omega) ?_ rfl (by omega)
            ((repeat (first | exact trivial | (refine ⟨?_, ?_⟩; (focus (first | rfl | (simp [lk, argsS, args0]; done) | (simp [lk, argsS, args0]; omega)))))))
    · have : k = nx.length := by omega
      subst this
      have q1 : ou.take nx.length = ou := List.take_of_length_le (by omega)
      rw [q1, List.take_length]
      refine awp_freeze 300 rfl rfl ?_
      refine awp_freeze 301 rfl rfl ?_
      rw [← rws_dat, ← rws_dat] at *
      repeat (first | refine awp_seq ?_ | refine then_n ?_ | refine then_r ?_ | refine then_x ?_ | refine block_n ?_ | refine block_r ?_ | refine block_x ?_ | refine u_y ?_ | refine loop_r ?_ | refine loop_x ?_ | refine awp_region ?_ | refine awpL_nil ?_ | refine awpQL_nil ?_ | refine awp_block ?_ | refine awp_skip ?_ | refine awp_exit ?_ | refine awp_label ?_ | refine u_dT ?_ | refine u_d ?_ | ((first | apply c_l | apply c_q | apply c_lr | apply c_qr); (iterate 2 exact rfl); (focus (first | exact e4 | exact e5)); (iterate 2 exact rfl)) | (apply v_c; (iterate 4 exact rfl); (focus (first | exact e4 | exact e5)); (iterate 2 exact rfl)) | refine u_l ?_ | refine u_o ?_ | refine u_q ?_ | refine u_lr ?_ | refine u_qr ?_ | refine u_ls ?_ | refine u_qs ?_ | refine u_t ?_ | refine u_f ?_ | refine v_s ?_ | refine v_o ?_ | refine v_on ?_ | refine v_og ?_ | refine v_q ?_ | refine v_sr ?_ | refine v_k ?_ | refine m_nil ?_ | refine u_glt ?_ | refine u_glf ?_ | refine u_gqt ?_ | refine u_gqf ?_)
      (refine awp_ret ?_; (repeat (first | refine then_r ?_ | refine block_r ?_ | refine loop_r ?_)); apply ret_okC (.inr rfl); (focus exact rfl))
      rfl
end Go.Proofs.YtffmlijngfhhaaaGreatDoor
