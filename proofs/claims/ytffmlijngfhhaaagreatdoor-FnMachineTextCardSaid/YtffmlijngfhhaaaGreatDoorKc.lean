/- The reference's draw of a machine, walked. No condition. -/
import Derived.Test.YtffmlijngfhhaaaGreatDoorKa
namespace Go.Proofs.YtffmlijngfhhaaaGreatDoor
open Go
attribute [local irreducible] awp awpL awpQL awpQ awpM pWalk Qt AC thenQ blockQ loopQ OpTo
set_option linter.unusedVariables false
set_option linter.unusedSimpArgs false
set_option maxHeartbeats 2000000
attribute [local irreducible] HC

theorem l06Draw_11 {code : List Int} {most : Int} {s : Src} {k : Nat} (hb : BytesOk code) (hm : 1 ≤ most ∧ most ≤ 9) (h : SOk s k) (hk : k ≤ 999999000) (h6 : pickV code 6 (pickS code most s) = 0) (h8 : pickV code 8 (pickS code 2 (pickS code 2 (pickS code 6 (pickS code most s)))) = 0) :
    HC Tryz.prog 53 [.ref 10000 0, .d (.int .i64 most)] [(10000, srcB code s)] (.agg [.d (.int .i64 (drS code most s)), .d (.int .i64 (drO code (pickS code most s))), .own 30000, .own 30001])
      [(10000, srcB code (drM code most s).2.2), (30000, .rows 27 2 1 (rws (drM code most s).1) none), (30001, .rows 27 2 1 (rws (drM code most s).2.1) none)] := by
  have hS := drS_range (s := s) hb hm
  have hO := drO_range (s := pickS code most s) hb
  have hL := drL_range (s := drs3 code (pickS code most s)) hb
  have hP : ∀ (s : Src) (k : Nat) (n : Int), SOk s k → k ≤ 999999990 → n ≤ 1000 → HC Tryz.prog 58 [.ref 10000 0, .d (.int .i64 n)] [(10000, srcB code s)] (.d (.int .i64 (pickV code n s))) [(10000, srcB code (pickS code n s))] := fun s k n a b c => spec_pick hb a b (by omega)
  have hQ : ∀ (s : Src) (k : Nat) (n : Int), SOk s k → k ≤ 999999990 → n ≤ 1000 → HC Tryz.prog 51 [.ref 10000 0, .d (.int .i64 n)] [(10000, srcB code s)] (.d (.bool (decide (pickV code n s = 0)))) [(10000, srcB code (pickS code n s))] := fun s k n a b c => spec_one hb a b (by omega)
  have hA : ∀ (s : Src) (k : Nat), SOk s k → k ≤ 999999990 → HC Tryz.prog 107 [.ref 10000 0, .d (.lst [.int .i64 1, .int .i64 3])] [(10000, srcB code s)] (.d (.int .i64 ([1, 3].getD (pickV code 2 s).toNat 0))) [(10000, srcB code (pickS code 2 s))] := fun s k a b => spec_among (l := [1, 3]) hb a b (by simp) (by simp)
  have k1 := pick_ok (code := code) (n := most) h
  have hr0 := pick_range (s := s) (n := most) hb hm.1
  unfold drM
  have hSe : drS code most s = 1 + pickV code most s := rfl
  rw [hSe] at hS ⊢
  generalize hs1 : pickS code most s = s1 at *
  generalize hv1 : pickV code most s = v1 at *
  have hc1 := hP s k most h (by omega) (by omega)
  rw [hs1, hv1] at hc1
  generalize hSS : 1 + v1 = S at *
  have hOe : drO code s1 = if pickV code 6 s1 = 0 then [1, 3].getD (pickV code 2 (pickS code 6 s1)).toNat 0 else 2 := rfl
  have hs3 : drs3 code s1 = if pickV code 6 s1 = 0 then pickS code 2 (pickS code 6 s1) else pickS code 6 s1 := rfl
  rw [if_pos h6] at hOe hs3
  have hc2 := hQ _ _ 6 k1 (by omega) (by omega)
  rw [decide_eq_true h6] at hc2
  have k2 := pick_ok (code := code) (n := 6) k1
  have hc3 := hA _ _ k2 (by omega)
  have k3 := pick_ok (code := code) (n := 2) k2
  rw [hOe] at hO
  rw [hs3] at hL
  rw [hOe, hs3]
  have hLe : drL code (pickS code 2 (pickS code 6 s1)) = if pickV code 8 (pickS code 2 (pickS code 2 (pickS code 6 s1))) = 0 then 3 else 1 + pickV code 2 (pickS code 2 (pickS code 6 s1)) := rfl
  have hs5 : drs5 code (pickS code 2 (pickS code 6 s1)) = pickS code 8 (pickS code 2 (pickS code 2 (pickS code 6 s1))) := rfl
  have k4 := pick_ok (code := code) (n := 2) k3
  have k5 := pick_ok (code := code) (n := 8) k4
  have hr2 := pick_range (s := (pickS code 2 (pickS code 6 s1))) (n := 2) hb (by omega)
  have hc4 := hP _ _ 2 k3 (by omega) (by omega)
  have hc5 := hQ _ _ 8 k4 (by omega) (by omega)
  generalize hOO : ([1, 3] : List Int).getD (pickV code 2 (pickS code 6 s1)).toNat 0 = O at *
  generalize hS4 : pickS code 2 (pickS code 2 (pickS code 6 s1)) = s4 at *
  generalize hv2 : pickV code 2 (pickS code 2 (pickS code 6 s1)) = v2 at *
  generalize hs5e : pickS code 8 s4 = s5 at *
  rw [hs5]
  have hlk := fun i => ltSt_ok (code := code) (S := S) (O := O) k5 ⟨hS.1, by omega⟩ i
  rw [if_pos h8] at hLe
  rw [hLe] at hL ⊢
  rw [decide_eq_true h8] at hc5
  unfold srcB at hc1 hc2 hc3 hc4 hc5 ⊢
  unfold srcB at hP hQ
  refine hc_intro tabIs _ Tryz.func53 rfl rfl Tryz.ntmps53 rfl rfl rfl ?_ fun w0 ok0 XM XA anc he0 hX0 => ?_
  · exact likeIn_cons rfl rfl likeIn_nil
  repeat (first | refine awp_seq ?_ | refine then_n ?_ | refine then_r ?_ | refine then_x ?_ | refine block_n ?_ | refine block_r ?_ | refine block_x ?_ | refine u_y ?_ | refine loop_r ?_ | refine loop_x ?_ | refine awp_region ?_ | refine awpL_nil ?_ | refine awpQL_nil ?_ | refine awp_block ?_ | refine awp_skip ?_ | refine awp_exit ?_ | refine awp_label ?_ | refine u_dT ?_ | refine u_d ?_ | refine u_l ?_ | refine u_o ?_ | refine u_q ?_ | refine u_lr ?_ | refine u_qr ?_ | refine u_ls ?_ | refine u_qs ?_ | refine u_t ?_ | refine u_f ?_ | refine v_s ?_ | refine v_o ?_ | refine v_on ?_ | refine v_og ?_ | refine v_q ?_ | refine v_sr ?_ | refine v_k ?_ | refine m_nil ?_)
  refine hcl [(10000, 10000)] [(10000, 10000)] hc1 ?_
  repeat (first | refine awp_seq ?_ | refine then_n ?_ | refine then_r ?_ | refine then_x ?_ | refine block_n ?_ | refine block_r ?_ | refine block_x ?_ | refine u_y ?_ | refine loop_r ?_ | refine loop_x ?_ | refine awp_region ?_ | refine awpL_nil ?_ | refine awpQL_nil ?_ | refine awp_block ?_ | refine awp_skip ?_ | refine awp_exit ?_ | refine awp_label ?_ | refine u_dT ?_ | refine u_d ?_ | refine u_l ?_ | refine u_o ?_ | refine u_q ?_ | refine u_lr ?_ | refine u_qr ?_ | refine u_ls ?_ | refine u_qs ?_ | refine u_t ?_ | refine u_f ?_ | refine v_s ?_ | refine v_o ?_ | refine v_on ?_ | refine v_og ?_ | refine v_q ?_ | refine v_sr ?_ | refine v_k ?_ | refine m_nil ?_)
  rw [hSS]
  refine hcl [(10000, 10000)] [(10000, 10000)] hc2 ?_
  repeat (first | refine awp_seq ?_ | refine then_n ?_ | refine then_r ?_ | refine then_x ?_ | refine block_n ?_ | refine block_r ?_ | refine block_x ?_ | refine u_y ?_ | refine loop_r ?_ | refine loop_x ?_ | refine awp_region ?_ | refine awpL_nil ?_ | refine awpQL_nil ?_ | refine awp_block ?_ | refine awp_skip ?_ | refine awp_exit ?_ | refine awp_label ?_ | refine u_dT ?_ | refine u_d ?_ | refine u_l ?_ | refine u_o ?_ | refine u_q ?_ | refine u_lr ?_ | refine u_qr ?_ | refine u_ls ?_ | refine u_qs ?_ | refine u_t ?_ | refine u_f ?_ | refine v_s ?_ | refine v_o ?_ | refine v_on ?_ | refine v_og ?_ | refine v_q ?_ | refine v_sr ?_ | refine v_k ?_ | refine m_nil ?_)
  refine hcl [(10000, 10000)] [(10000, 10000)] hc3 ?_
  repeat (first | refine awp_seq ?_ | refine then_n ?_ | refine then_r ?_ | refine then_x ?_ | refine block_n ?_ | refine block_r ?_ | refine block_x ?_ | refine u_y ?_ | refine loop_r ?_ | refine loop_x ?_ | refine awp_region ?_ | refine awpL_nil ?_ | refine awpQL_nil ?_ | refine awp_block ?_ | refine awp_skip ?_ | refine awp_exit ?_ | refine awp_label ?_ | refine u_dT ?_ | refine u_d ?_ | refine u_l ?_ | refine u_o ?_ | refine u_q ?_ | refine u_lr ?_ | refine u_qr ?_ | refine u_ls ?_ | refine u_qs ?_ | refine u_t ?_ | refine u_f ?_ | refine v_s ?_ | refine v_o ?_ | refine v_on ?_ | refine v_og ?_ | refine v_q ?_ | refine v_sr ?_ | refine v_k ?_ | refine m_nil ?_)
  refine hcl [(10000, 10000)] [(10000, 10000)] hc4 ?_
  repeat (first | refine awp_seq ?_ | refine then_n ?_ | refine then_r ?_ | refine then_x ?_ | refine block_n ?_ | refine block_r ?_ | refine block_x ?_ | refine u_y ?_ | refine loop_r ?_ | refine loop_x ?_ | refine awp_region ?_ | refine awpL_nil ?_ | refine awpQL_nil ?_ | refine awp_block ?_ | refine awp_skip ?_ | refine awp_exit ?_ | refine awp_label ?_ | refine u_dT ?_ | refine u_d ?_ | refine u_l ?_ | refine u_o ?_ | refine u_q ?_ | refine u_lr ?_ | refine u_qr ?_ | refine u_ls ?_ | refine u_qs ?_ | refine u_t ?_ | refine u_f ?_ | refine v_s ?_ | refine v_o ?_ | refine v_on ?_ | refine v_og ?_ | refine v_q ?_ | refine v_sr ?_ | refine v_k ?_ | refine m_nil ?_)
  refine hcl [(10000, 10000)] [(10000, 10000)] hc5 ?_
  repeat (first | refine awp_seq ?_ | refine then_n ?_ | refine then_r ?_ | refine then_x ?_ | refine block_n ?_ | refine block_r ?_ | refine block_x ?_ | refine u_y ?_ | refine loop_r ?_ | refine loop_x ?_ | refine awp_region ?_ | refine awpL_nil ?_ | refine awpQL_nil ?_ | refine awp_block ?_ | refine awp_skip ?_ | refine awp_exit ?_ | refine awp_label ?_ | refine u_dT ?_ | refine u_d ?_ | refine u_l ?_ | refine u_o ?_ | refine u_q ?_ | refine u_lr ?_ | refine u_qr ?_ | refine u_ls ?_ | refine u_qs ?_ | refine u_t ?_ | refine u_f ?_ | refine v_s ?_ | refine v_o ?_ | refine v_on ?_ | refine v_og ?_ | refine v_q ?_ | refine v_sr ?_ | refine v_k ?_ | refine m_nil ?_)
  refine awp_nilCell 5 2 200 27 1 (by exact rfl) (by exact rfl) rfl rfl rfl ?_
  refine awp_toRows 200 2 1 rfl rfl rfl rfl ?_
  refine awp_nilCell 5 3 201 27 1 (by exact rfl) (by exact rfl) rfl rfl rfl ?_
  refine awp_toRows 201 2 1 rfl rfl rfl rfl ?_
  refine awp_perm _ rfl ?_
  refine awp_loop (fun i : Nat => (i : Int) ≤ (3 : Int)) (fun i => [(0, .ref 10000 0), (4, .ref 4 0), (5, .ref 5 0), (6, .d (.int .i64 ((3 : Int)))), (7, .d (.int .i64 i))]) (fun i => [(4, .box [.d (.int .i64 0), .d (.int .i64 0), .d .nils, .d .nils]), (5, .box [.d (.int .i64 S), .d (.int .i64 O), .own 200, .own 201]), (200, .rows 27 2 1 (rws (ltSt code S O s5 i).1) none), (201, .rows 27 2 1 (rws (ltSt code S O s5 i).2.1) none), (10000, srcB code (ltSt code S O s5 i).2.2)]) (fun i => ((3 : Int)).toNat - i) 0 (by omega) ?_ (by as_aux_lemma => kernel_rfl) ?_
  · ((repeat (first | exact trivial | (refine ⟨?_, ?_⟩; (focus (first | rfl | (simp [lk, argsS, args0]; done) | (simp [lk, argsS, args0]; omega)))))))
  · intro i hi
    have hli := ltSt_len (code := code) (S := S) (O := O) (s := s5) i
    have hrl1 := rws_length (ltSt code S O s5 i).1
    have hrl2 := rws_length (ltSt code S O s5 i).2.1
    have hki := hlk i
    by_cases hlt : (i : Int) < (3 : Int)
    · have hst : ltSt code S O s5 (i + 1) = ((ltSt code S O s5 i).1 ++ [(rowE code S O (ltSt code S O s5 i).2.2).1], (ltSt code S O s5 i).2.1 ++ [(rowE code S O (ltSt code S O s5 i).2.2).2.1], (rowE code S O (ltSt code S O s5 i).2.2).2.2) := rfl
      have hrx := fun x => rowSt_ok (code := code) (S := S) (O := O) hki x
      have hrn := fun x => rowSt_len (code := code) (S := S) (O := O) (s := (ltSt code S O s5 i).2.2) x
      have hrE : rowE code S O (ltSt code S O s5 i).2.2 = (if pickV code 3 (rowSt code S O (ltSt code S O s5 i).2.2 S.toNat).2.2 = 0 then cycL S else (rowSt code S O (ltSt code S O s5 i).2.2 S.toNat).1, (rowSt code S O (ltSt code S O s5 i).2.2 S.toNat).2.1, pickS code 3 (rowSt code S O (ltSt code S O s5 i).2.2 S.toNat).2.2) := rfl
      generalize hsi : (ltSt code S O s5 i).2.2 = si at *
      repeat (first | refine v_w (t := 34) ?_ | refine v_w (t := 33) ?_ | refine awp_seq ?_ | refine then_n ?_ | refine then_r ?_ | refine then_x ?_ | refine block_n ?_ | refine block_r ?_ | refine block_x ?_ | refine u_y ?_ | refine loop_r ?_ | refine loop_x ?_ | refine awp_region ?_ | refine awpL_nil ?_ | refine awpQL_nil ?_ | refine awp_block ?_ | refine awp_skip ?_ | refine awp_exit ?_ | refine awp_label ?_ | refine u_dT ?_ | refine u_d ?_ | refine u_w (t := 33) ?_ | refine u_w (t := 34) ?_ | refine u_l ?_ | refine u_o ?_ | refine u_q ?_ | refine u_lr ?_ | refine u_qr ?_ | refine u_ls ?_ | refine u_qs ?_ | refine u_t ?_ | refine u_f ?_ | refine v_s ?_ | refine v_o ?_ | refine v_on ?_ | refine v_og ?_ | refine v_q ?_ | refine v_sr ?_ | refine v_k ?_ | refine m_nil ?_)
      refine awp_perm _ rfl ?_
      refine awp_loop (fun x : Nat => (x : Int) ≤ S) (fun x => [(0, .ref 10000 0), (4, .ref 4 0), (5, .ref 5 0), (6, .d (.int .i64 ((3 : Int)))), (7, .d (.int .i64 i)), (8, .own 33), (9, .own 34), (10, .d (.int .i64 x))])
        (fun x => [(4, .box [.d (.int .i64 0), .d (.int .i64 0), .d .nils, .d .nils]), (5, .box [.d (.int .i64 S), .d (.int .i64 O), .own 200, .own 201]), (33, .arr 2 1 ((rowSt code S O si x).1.map (.int .i64))), (34, .arr 2 1 ((rowSt code S O si x).2.1.map (.int .i64))), (200, .rows 27 2 1 (rws (ltSt code S O s5 i).1) none), (201, .rows 27 2 1 (rws (ltSt code S O s5 i).2.1) none), (10000, srcB code (rowSt code S O si x).2.2)]) (fun x => S.toNat - x) 0 (by omega) ?_ (by as_aux_lemma => kernel_rfl) ?_
      · ((repeat (first | exact trivial | (refine ⟨?_, ?_⟩; (focus (first | rfl | (simp [lk, argsS, args0]; done) | (simp [lk, argsS, args0]; omega)))))))
      · intro x hx
        have hkx := hrx x
        have hnx := hrn x
        have hm1 : ((rowSt code S O si x).1.map (D.int .i64)).length = x := by simp [hnx.1]
        have hm2 : ((rowSt code S O si x).2.1.map (D.int .i64)).length = x := by simp [hnx.2]
        by_cases hxl : (x : Int) < S
        · have hsx : rowSt code S O si (x + 1) = ((rowSt code S O si x).1 ++ [pickV code S (rowSt code S O si x).2.2], (rowSt code S O si x).2.1 ++ [pickV code O (pickS code S (rowSt code S O si x).2.2)], pickS code O (pickS code S (rowSt code S O si x).2.2)) := rfl
          have q1 := hP _ _ S hkx (by omega) (by omega)
          have q2 := hP _ _ O (pick_ok (code := code) (n := S) hkx) (by omega) (by omega)
          generalize rowSt code S O si x = r at *
          repeat (first | refine awp_seq ?_ | refine then_n ?_ | refine then_r ?_ | refine then_x ?_ | refine block_n ?_ | refine block_r ?_ | refine block_x ?_ | refine u_y ?_ | refine loop_r ?_ | refine loop_x ?_ | refine awp_region ?_ | refine awpL_nil ?_ | refine awpQL_nil ?_ | refine awp_block ?_ | refine awp_skip ?_ | refine awp_exit ?_ | refine awp_label ?_ | refine u_dT ?_ | refine u_d ?_ | refine u_l ?_ | refine u_o ?_ | refine u_q ?_ | refine u_lr ?_ | refine u_qr ?_ | refine u_ls ?_ | refine u_qs ?_ | refine u_t ?_ | refine u_f ?_ | refine v_s ?_ | refine v_o ?_ | refine v_on ?_ | refine v_og ?_ | refine v_q ?_ | refine v_sr ?_ | refine v_k ?_ | refine m_nil ?_)
          refine hcl [(10000, 10000)] [(10000, 10000)] q1 ?_
          repeat (first | refine awp_seq ?_ | refine then_n ?_ | refine then_r ?_ | refine then_x ?_ | refine block_n ?_ | refine block_r ?_ | refine block_x ?_ | refine u_y ?_ | refine loop_r ?_ | refine loop_x ?_ | refine awp_region ?_ | refine awpL_nil ?_ | refine awpQL_nil ?_ | refine awp_block ?_ | refine awp_skip ?_ | refine awp_exit ?_ | refine awp_label ?_ | refine u_dT ?_ | refine u_d ?_ | refine u_l ?_ | refine u_o ?_ | refine u_q ?_ | refine u_lr ?_ | refine u_qr ?_ | refine u_ls ?_ | refine u_qs ?_ | refine u_t ?_ | refine u_f ?_ | refine v_s ?_ | refine v_o ?_ | refine v_on ?_ | refine v_og ?_ | refine v_q ?_ | refine v_sr ?_ | refine v_k ?_ | refine m_nil ?_)
          refine hcl [(10000, 10000)] [(10000, 10000)] q2 ?_
          repeat (first | refine awp_seq ?_ | refine then_n ?_ | refine then_r ?_ | refine then_x ?_ | refine block_n ?_ | refine block_r ?_ | refine block_x ?_ | refine u_y ?_ | refine loop_r ?_ | refine loop_x ?_ | refine awpL_nil ?_ | refine awpQL_nil ?_ | refine awp_block ?_ | refine awp_skip ?_ | refine awp_exit ?_ | refine awp_label ?_ | refine u_dT ?_ | refine u_d ?_ | refine u_l ?_ | refine u_o ?_ | refine u_q ?_ | refine u_lr ?_ | refine u_qr ?_ | refine u_ls ?_ | refine u_qs ?_ | refine u_t ?_ | refine u_f ?_ | refine v_s ?_ | refine v_o ?_ | refine v_on ?_ | refine v_og ?_ | refine v_q ?_ | refine v_sr ?_ | refine v_k ?_ | refine m_nil ?_)
          refine awp_perm _ rfl ?_
          repeat (first | refine awp_seq ?_ | refine then_n ?_ | refine then_r ?_ | refine then_x ?_ | refine block_n ?_ | refine block_r ?_ | refine block_x ?_ | refine u_y ?_ | refine loop_r ?_ | refine loop_x ?_ | refine awp_region ?_ | refine awpL_nil ?_ | refine awpQL_nil ?_ | refine awp_block ?_ | refine awp_skip ?_ | refine awp_exit ?_ | refine awp_label ?_ | refine u_dT ?_ | refine u_d ?_ | refine u_l ?_ | refine u_o ?_ | refine u_q ?_ | refine u_lr ?_ | refine u_qr ?_ | refine u_ls ?_ | refine u_qs ?_ | refine u_t ?_ | refine u_f ?_ | refine v_s ?_ | refine v_o ?_ | refine v_on ?_ | refine v_og ?_ | refine v_q ?_ | refine v_sr ?_ | refine v_k ?_ | refine m_nil ?_)
          refine loop_n (x + 1) (by omega) ?_ ?_ (by omega)
          · ((repeat (first | exact trivial | (refine ⟨?_, ?_⟩; (focus (first | rfl | (simp [lk, argsS, args0]; done) | (simp [lk, argsS, args0]; omega)))))))
          · rw [hsx]; simp only [List.map_append]; (as_aux_lemma => kernel_rfl)
        · have hxS : x = S.toNat := by omega
          subst hxS
          have q3 := hQ _ _ 3 hkx (by omega) (by omega)
          generalize hrr : rowSt code S O si S.toNat = r at *
          by_cases hb3 : pickV code 3 r.2.2 = 0
          · rw [if_pos hb3] at hrE
            rw [decide_eq_true hb3] at q3
            repeat (first | refine awp_seq ?_ | refine then_n ?_ | refine then_r ?_ | refine then_x ?_ | refine block_n ?_ | refine block_r ?_ | refine block_x ?_ | refine u_y ?_ | refine loop_r ?_ | refine loop_x ?_ | refine awp_region ?_ | refine awpL_nil ?_ | refine awpQL_nil ?_ | refine awp_block ?_ | refine awp_skip ?_ | refine awp_exit ?_ | refine awp_label ?_ | refine u_dT ?_ | refine u_d ?_ | refine u_l ?_ | refine u_o ?_ | refine u_q ?_ | refine u_lr ?_ | refine u_qr ?_ | refine u_ls ?_ | refine u_qs ?_ | refine u_t ?_ | refine u_f ?_ | refine v_s ?_ | refine v_o ?_ | refine v_on ?_ | refine v_og ?_ | refine v_q ?_ | refine v_sr ?_ | refine v_k ?_ | refine m_nil ?_)
            refine hcl [(10000, 10000)] [(10000, 10000)] q3 ?_
            repeat (first | refine awp_seq ?_ | refine then_n ?_ | refine then_r ?_ | refine then_x ?_ | refine block_n ?_ | refine block_r ?_ | refine block_x ?_ | refine u_y ?_ | refine loop_r ?_ | refine loop_x ?_ | refine awp_region ?_ | refine awpL_nil ?_ | refine awpQL_nil ?_ | refine awp_block ?_ | refine awp_skip ?_ | refine awp_exit ?_ | refine awp_label ?_ | refine u_dT ?_ | refine u_d ?_ | refine u_l ?_ | refine u_o ?_ | refine u_q ?_ | refine u_lr ?_ | refine u_qr ?_ | refine u_ls ?_ | refine u_qs ?_ | refine u_t ?_ | refine u_f ?_ | refine v_s ?_ | refine v_o ?_ | refine v_on ?_ | refine v_og ?_ | refine v_q ?_ | refine v_sr ?_ | refine v_k ?_ | refine m_nil ?_)
            refine awp_perm _ rfl ?_
            refine awp_loop (fun y : Nat => (y : Int) ≤ S) (fun y => [(0, .ref 10000 0), (4, .ref 4 0), (5, .ref 5 0), (6, .d (.int .i64 ((3 : Int)))), (7, .d (.int .i64 i)), (8, .own 33), (9, .own 34), (11, .d (.int .i64 y))])
              (fun y => [(4, .box [.d (.int .i64 0), .d (.int .i64 0), .d .nils, .d .nils]), (5, .box [.d (.int .i64 S), .d (.int .i64 O), .own 200, .own 201]), (33, .arr 2 1 (((cycL S).take y ++ r.1.drop y).map (.int .i64))), (34, .arr 2 1 (r.2.1.map (.int .i64))), (200, .rows 27 2 1 (rws (ltSt code S O s5 i).1) none), (201, .rows 27 2 1 (rws (ltSt code S O s5 i).2.1) none), (10000, srcB code (pickS code 3 r.2.2))]) (fun y => S.toNat - y) 0 (by omega) ?_ ?_ ?_
            · ((repeat (first | exact trivial | (refine ⟨?_, ?_⟩; (focus (first | rfl | (simp [lk, argsS, args0]; done) | (simp [lk, argsS, args0]; omega)))))))
            · simp only [List.take_zero, List.nil_append, List.drop_zero]
              (as_aux_lemma => kernel_rfl)
            · intro y hy
              have hcl2 : (cycL S).length = S.toNat := by simp [cycL]
              have hly : (((cycL S).take y ++ r.1.drop y).map (D.int .i64)).length = S.toNat := by simp [hcl2, hnx.1]; omega
              by_cases hyl : (y : Int) < S
              · have hyn : y < S.toNat := by omega
                have hset : (((cycL S).take y ++ r.1.drop y).map (D.int .i64)).set (y : Int).toNat (.int .i64 (((y : Int) + 1) % S)) = ((cycL S).take (y + 1) ++ r.1.drop (y + 1)).map (D.int .i64) := by
                  rw [Int.toNat_natCast, List.map_append, List.map_append, List.drop_eq_getElem_cons (by rw [hnx.1]; exact hyn), List.map_cons]
                  have hlt2 : (((cycL S).take y).map (D.int .i64)).length = y := by simp [hcl2]; omega
                  rw [List.set_append_right _ _ (by omega), hlt2, Nat.sub_self, List.set_cons_zero, List.take_succ_eq_append_getElem (by rw [hcl2]; exact hyn), List.map_append]
                  have hce : (cycL S)[y]'(by rw [hcl2]; exact hyn) = ((y : Int) + 1) % S := by simp [cycL]
                  simp [hce]
                repeat (first | refine awp_seq ?_ | refine then_n ?_ | refine then_r ?_ | refine then_x ?_ | refine block_n ?_ | refine block_r ?_ | refine block_x ?_ | refine u_y ?_ | refine loop_r ?_ | refine loop_x ?_ | refine awp_region ?_ | refine awpL_nil ?_ | refine awpQL_nil ?_ | refine awp_block ?_ | refine awp_skip ?_ | refine awp_exit ?_ | refine awp_label ?_ | refine u_dT ?_ | refine u_d ?_ | refine u_l ?_ | refine u_o ?_ | refine u_q ?_ | refine u_lr ?_ | refine u_qr ?_ | refine u_ls ?_ | refine u_qs ?_ | refine u_t ?_ | refine u_f ?_ | refine v_s ?_ | refine v_o ?_ | refine v_on ?_ | refine v_og ?_ | refine v_q ?_ | refine v_sr ?_ | refine v_k ?_ | refine m_nil ?_)
                refine loop_n (y + 1) (by omega) ?_ ?_ (by omega)
                · ((repeat (first | exact trivial | (refine ⟨?_, ?_⟩; (focus (first | rfl | (simp [lk, argsS, args0]; done) | (simp [lk, argsS, args0]; omega)))))))
                · rw [← hset]; (as_aux_lemma => kernel_rfl)
              · have hyS : y = S.toNat := by omega
                subst hyS
                have hfin : (cycL S).take S.toNat ++ r.1.drop S.toNat = cycL S := by
                  rw [List.take_of_length_le (by omega), List.drop_eq_nil_of_le (by omega), List.append_nil]
                rw [hfin]
                have ra : rws ((ltSt code S O s5 i).1 ++ [cycL S]) = rws (ltSt code S O s5 i).1 ++ [(cycL S).map (.int .i64)] := by simp [rws]
                have rb : rws ((ltSt code S O s5 i).2.1 ++ [r.2.1]) = rws (ltSt code S O s5 i).2.1 ++ [r.2.1.map (.int .i64)] := by simp [rws]
                repeat (first | refine awp_seq ?_ | refine then_n ?_ | refine then_r ?_ | refine then_x ?_ | refine block_n ?_ | refine block_r ?_ | refine block_x ?_ | refine u_y ?_ | refine loop_r ?_ | refine loop_x ?_ | refine awpL_nil ?_ | refine awpQL_nil ?_ | refine awp_block ?_ | refine awp_skip ?_ | refine awp_exit ?_ | refine awp_label ?_ | refine u_dT ?_ | refine u_d ?_ | refine u_l ?_ | refine u_o ?_ | refine u_q ?_ | refine u_lr ?_ | refine u_qr ?_ | refine u_ls ?_ | refine u_qs ?_ | refine u_t ?_ | refine u_f ?_ | refine v_s ?_ | refine v_o ?_ | refine v_on ?_ | refine v_og ?_ | refine v_q ?_ | refine v_sr ?_ | refine v_k ?_ | refine m_nil ?_)
                refine awp_region ?_
                repeat (first | refine awp_seq ?_ | refine then_n ?_ | refine then_r ?_ | refine then_x ?_ | refine block_n ?_ | refine block_r ?_ | refine block_x ?_ | refine u_y ?_ | refine loop_r ?_ | refine loop_x ?_ | refine awpL_nil ?_ | refine awpQL_nil ?_ | refine awp_block ?_ | refine awp_skip ?_ | refine awp_exit ?_ | refine awp_label ?_ | refine u_dT ?_ | refine u_d ?_ | refine u_l ?_ | refine u_o ?_ | refine u_q ?_ | refine u_lr ?_ | refine u_qr ?_ | refine u_ls ?_ | refine u_qs ?_ | refine u_t ?_ | refine u_f ?_ | refine v_s ?_ | refine v_o ?_ | refine v_on ?_ | refine v_og ?_ | refine v_q ?_ | refine v_sr ?_ | refine v_k ?_ | refine m_nil ?_)
                refine awp_region ?_
                repeat (first | refine awp_seq ?_ | refine then_n ?_ | refine then_r ?_ | refine then_x ?_ | refine block_n ?_ | refine block_r ?_ | refine block_x ?_ | refine u_y ?_ | refine loop_r ?_ | refine loop_x ?_ | refine awpL_nil ?_ | refine awpQL_nil ?_ | refine awp_block ?_ | refine awp_skip ?_ | refine awp_exit ?_ | refine awp_label ?_ | refine u_dT ?_ | refine u_d ?_ | refine u_l ?_ | refine u_o ?_ | refine u_q ?_ | refine u_lr ?_ | refine u_qr ?_ | refine u_ls ?_ | refine u_qs ?_ | refine u_t ?_ | refine u_f ?_ | refine v_s ?_ | refine v_o ?_ | refine v_on ?_ | refine v_og ?_ | refine v_q ?_ | refine v_sr ?_ | refine v_k ?_ | refine m_nil ?_)
                refine awp_region ?_
                repeat (first | refine awp_seq ?_ | refine then_n ?_ | refine then_r ?_ | refine then_x ?_ | refine block_n ?_ | refine block_r ?_ | refine block_x ?_ | refine u_y ?_ | refine loop_r ?_ | refine loop_x ?_ | refine awpL_nil ?_ | refine awpQL_nil ?_ | refine awp_block ?_ | refine awp_skip ?_ | refine awp_exit ?_ | refine awp_label ?_ | refine u_dT ?_ | refine u_d ?_ | refine u_l ?_ | refine u_o ?_ | refine u_q ?_ | refine u_lr ?_ | refine u_qr ?_ | refine u_ls ?_ | refine u_qs ?_ | refine u_t ?_ | refine u_f ?_ | refine v_s ?_ | refine v_o ?_ | refine v_on ?_ | refine v_og ?_ | refine v_q ?_ | refine v_sr ?_ | refine v_k ?_ | refine m_nil ?_)
                refine awp_perm _ rfl ?_
                repeat (first | refine awp_seq ?_ | refine then_n ?_ | refine then_r ?_ | refine then_x ?_ | refine block_n ?_ | refine block_r ?_ | refine block_x ?_ | refine u_y ?_ | refine loop_r ?_ | refine loop_x ?_ | refine awp_region ?_ | refine awpL_nil ?_ | refine awpQL_nil ?_ | refine awp_block ?_ | refine awp_skip ?_ | refine awp_exit ?_ | refine awp_label ?_ | refine u_dT ?_ | refine u_d ?_ | refine u_l ?_ | refine u_o ?_ | refine u_q ?_ | refine u_lr ?_ | refine u_qr ?_ | refine u_ls ?_ | refine u_qs ?_ | refine u_t ?_ | refine u_f ?_ | refine v_s ?_ | refine v_o ?_ | refine v_on ?_ | refine v_og ?_ | refine v_q ?_ | refine v_sr ?_ | refine v_k ?_ | refine m_nil ?_)
                refine loop_n (i + 1) (by omega) ?_ ?_ (by omega)
                · ((repeat (first | exact trivial | (refine ⟨?_, ?_⟩; (focus (first | rfl | (simp [lk, argsS, args0]; done) | (simp [lk, argsS, args0]; omega)))))))
                · rw [hst, hrE]; simp only []; rw [ra, rb]; (as_aux_lemma => kernel_rfl)
          · rw [if_neg hb3] at hrE
            rw [decide_eq_false hb3] at q3
            have ra : rws ((ltSt code S O s5 i).1 ++ [r.1]) = rws (ltSt code S O s5 i).1 ++ [r.1.map (.int .i64)] := by simp [rws]
            have rb : rws ((ltSt code S O s5 i).2.1 ++ [r.2.1]) = rws (ltSt code S O s5 i).2.1 ++ [r.2.1.map (.int .i64)] := by simp [rws]
            repeat (first | refine awp_seq ?_ | refine then_n ?_ | refine then_r ?_ | refine then_x ?_ | refine block_n ?_ | refine block_r ?_ | refine block_x ?_ | refine u_y ?_ | refine loop_r ?_ | refine loop_x ?_ | refine awp_region ?_ | refine awpL_nil ?_ | refine awpQL_nil ?_ | refine awp_block ?_ | refine awp_skip ?_ | refine awp_exit ?_ | refine awp_label ?_ | refine u_dT ?_ | refine u_d ?_ | refine u_l ?_ | refine u_o ?_ | refine u_q ?_ | refine u_lr ?_ | refine u_qr ?_ | refine u_ls ?_ | refine u_qs ?_ | refine u_t ?_ | refine u_f ?_ | refine v_s ?_ | refine v_o ?_ | refine v_on ?_ | refine v_og ?_ | refine v_q ?_ | refine v_sr ?_ | refine v_k ?_ | refine m_nil ?_)
            refine hcl [(10000, 10000)] [(10000, 10000)] q3 ?_
            repeat (first | refine awp_seq ?_ | refine then_n ?_ | refine then_r ?_ | refine then_x ?_ | refine block_n ?_ | refine block_r ?_ | refine block_x ?_ | refine u_y ?_ | refine loop_r ?_ | refine loop_x ?_ | refine awpL_nil ?_ | refine awpQL_nil ?_ | refine awp_block ?_ | refine awp_skip ?_ | refine awp_exit ?_ | refine awp_label ?_ | refine u_dT ?_ | refine u_d ?_ | refine u_l ?_ | refine u_o ?_ | refine u_q ?_ | refine u_lr ?_ | refine u_qr ?_ | refine u_ls ?_ | refine u_qs ?_ | refine u_t ?_ | refine u_f ?_ | refine v_s ?_ | refine v_o ?_ | refine v_on ?_ | refine v_og ?_ | refine v_q ?_ | refine v_sr ?_ | refine v_k ?_ | refine m_nil ?_)
            refine awp_region ?_
            repeat (first | refine awp_seq ?_ | refine then_n ?_ | refine then_r ?_ | refine then_x ?_ | refine block_n ?_ | refine block_r ?_ | refine block_x ?_ | refine u_y ?_ | refine loop_r ?_ | refine loop_x ?_ | refine awpL_nil ?_ | refine awpQL_nil ?_ | refine awp_block ?_ | refine awp_skip ?_ | refine awp_exit ?_ | refine awp_label ?_ | refine u_dT ?_ | refine u_d ?_ | refine u_l ?_ | refine u_o ?_ | refine u_q ?_ | refine u_lr ?_ | refine u_qr ?_ | refine u_ls ?_ | refine u_qs ?_ | refine u_t ?_ | refine u_f ?_ | refine v_s ?_ | refine v_o ?_ | refine v_on ?_ | refine v_og ?_ | refine v_q ?_ | refine v_sr ?_ | refine v_k ?_ | refine m_nil ?_)
            refine awp_region ?_
            repeat (first | refine awp_seq ?_ | refine then_n ?_ | refine then_r ?_ | refine then_x ?_ | refine block_n ?_ | refine block_r ?_ | refine block_x ?_ | refine u_y ?_ | refine loop_r ?_ | refine loop_x ?_ | refine awpL_nil ?_ | refine awpQL_nil ?_ | refine awp_block ?_ | refine awp_skip ?_ | refine awp_exit ?_ | refine awp_label ?_ | refine u_dT ?_ | refine u_d ?_ | refine u_l ?_ | refine u_o ?_ | refine u_q ?_ | refine u_lr ?_ | refine u_qr ?_ | refine u_ls ?_ | refine u_qs ?_ | refine u_t ?_ | refine u_f ?_ | refine v_s ?_ | refine v_o ?_ | refine v_on ?_ | refine v_og ?_ | refine v_q ?_ | refine v_sr ?_ | refine v_k ?_ | refine m_nil ?_)
            refine awp_perm _ rfl ?_
            repeat (first | refine awp_seq ?_ | refine then_n ?_ | refine then_r ?_ | refine then_x ?_ | refine block_n ?_ | refine block_r ?_ | refine block_x ?_ | refine u_y ?_ | refine loop_r ?_ | refine loop_x ?_ | refine awp_region ?_ | refine awpL_nil ?_ | refine awpQL_nil ?_ | refine awp_block ?_ | refine awp_skip ?_ | refine awp_exit ?_ | refine awp_label ?_ | refine u_dT ?_ | refine u_d ?_ | refine u_l ?_ | refine u_o ?_ | refine u_q ?_ | refine u_lr ?_ | refine u_qr ?_ | refine u_ls ?_ | refine u_qs ?_ | refine u_t ?_ | refine u_f ?_ | refine v_s ?_ | refine v_o ?_ | refine v_on ?_ | refine v_og ?_ | refine v_q ?_ | refine v_sr ?_ | refine v_k ?_ | refine m_nil ?_)
            refine loop_n (i + 1) (by omega) ?_ ?_ (by omega)
            · ((repeat (first | exact trivial | (refine ⟨?_, ?_⟩; (focus (first | rfl | (simp [lk, argsS, args0]; done) | (simp [lk, argsS, args0]; omega)))))))
            · rw [hst, hrE]; simp only []; rw [ra, rb]; (as_aux_lemma => kernel_rfl)
    · have hiL : i = ((3 : Int)).toNat := by omega
      subst hiL
      repeat (first | refine awp_seq ?_ | refine then_n ?_ | refine then_r ?_ | refine then_x ?_ | refine block_n ?_ | refine block_r ?_ | refine block_x ?_ | refine u_y ?_ | refine loop_r ?_ | refine loop_x ?_ | refine awp_region ?_ | refine awpL_nil ?_ | refine awpQL_nil ?_ | refine awp_block ?_ | refine awp_skip ?_ | refine awp_exit ?_ | refine awp_label ?_ | refine u_dT ?_ | refine u_d ?_ | refine u_l ?_ | refine u_o ?_ | refine u_q ?_ | refine u_lr ?_ | refine u_qr ?_ | refine u_ls ?_ | refine u_qs ?_ | refine u_t ?_ | refine u_f ?_ | refine v_s ?_ | refine v_o ?_ | refine v_on ?_ | refine v_og ?_ | refine v_q ?_ | refine v_sr ?_ | refine v_k ?_ | refine m_nil ?_)
      (refine awp_ret ?_; (repeat (first | refine then_r ?_ | refine block_r ?_ | refine loop_r ?_)); refine u_rH [(10000, 10000), (200, 30000), (201, 30001)] ?_ ?_)
      · rfl
      · rfl

theorem l06Draw_10 {code : List Int} {most : Int} {s : Src} {k : Nat} (hb : BytesOk code) (hm : 1 ≤ most ∧ most ≤ 9) (h : SOk s k) (hk : k ≤ 999999000) (h6 : pickV code 6 (pickS code most s) = 0) (h8 : pickV code 8 (pickS code 2 (pickS code 2 (pickS code 6 (pickS code most s)))) ≠ 0) :
    HC Tryz.prog 53 [.ref 10000 0, .d (.int .i64 most)] [(10000, srcB code s)] (.agg [.d (.int .i64 (drS code most s)), .d (.int .i64 (drO code (pickS code most s))), .own 30000, .own 30001])
      [(10000, srcB code (drM code most s).2.2), (30000, .rows 27 2 1 (rws (drM code most s).1) none), (30001, .rows 27 2 1 (rws (drM code most s).2.1) none)] := by
  have hS := drS_range (s := s) hb hm
  have hO := drO_range (s := pickS code most s) hb
  have hL := drL_range (s := drs3 code (pickS code most s)) hb
  have hP : ∀ (s : Src) (k : Nat) (n : Int), SOk s k → k ≤ 999999990 → n ≤ 1000 → HC Tryz.prog 58 [.ref 10000 0, .d (.int .i64 n)] [(10000, srcB code s)] (.d (.int .i64 (pickV code n s))) [(10000, srcB code (pickS code n s))] := fun s k n a b c => spec_pick hb a b (by omega)
  have hQ : ∀ (s : Src) (k : Nat) (n : Int), SOk s k → k ≤ 999999990 → n ≤ 1000 → HC Tryz.prog 51 [.ref 10000 0, .d (.int .i64 n)] [(10000, srcB code s)] (.d (.bool (decide (pickV code n s = 0)))) [(10000, srcB code (pickS code n s))] := fun s k n a b c => spec_one hb a b (by omega)
  have hA : ∀ (s : Src) (k : Nat), SOk s k → k ≤ 999999990 → HC Tryz.prog 107 [.ref 10000 0, .d (.lst [.int .i64 1, .int .i64 3])] [(10000, srcB code s)] (.d (.int .i64 ([1, 3].getD (pickV code 2 s).toNat 0))) [(10000, srcB code (pickS code 2 s))] := fun s k a b => spec_among (l := [1, 3]) hb a b (by simp) (by simp)
  have k1 := pick_ok (code := code) (n := most) h
  have hr0 := pick_range (s := s) (n := most) hb hm.1
  unfold drM
  have hSe : drS code most s = 1 + pickV code most s := rfl
  rw [hSe] at hS ⊢
  generalize hs1 : pickS code most s = s1 at *
  generalize hv1 : pickV code most s = v1 at *
  have hc1 := hP s k most h (by omega) (by omega)
  rw [hs1, hv1] at hc1
  generalize hSS : 1 + v1 = S at *
  have hOe : drO code s1 = if pickV code 6 s1 = 0 then [1, 3].getD (pickV code 2 (pickS code 6 s1)).toNat 0 else 2 := rfl
  have hs3 : drs3 code s1 = if pickV code 6 s1 = 0 then pickS code 2 (pickS code 6 s1) else pickS code 6 s1 := rfl
  rw [if_pos h6] at hOe hs3
  have hc2 := hQ _ _ 6 k1 (by omega) (by omega)
  rw [decide_eq_true h6] at hc2
  have k2 := pick_ok (code := code) (n := 6) k1
  have hc3 := hA _ _ k2 (by omega)
  have k3 := pick_ok (code := code) (n := 2) k2
  rw [hOe] at hO
  rw [hs3] at hL
  rw [hOe, hs3]
  have hLe : drL code (pickS code 2 (pickS code 6 s1)) = if pickV code 8 (pickS code 2 (pickS code 2 (pickS code 6 s1))) = 0 then 3 else 1 + pickV code 2 (pickS code 2 (pickS code 6 s1)) := rfl
  have hs5 : drs5 code (pickS code 2 (pickS code 6 s1)) = pickS code 8 (pickS code 2 (pickS code 2 (pickS code 6 s1))) := rfl
  have k4 := pick_ok (code := code) (n := 2) k3
  have k5 := pick_ok (code := code) (n := 8) k4
  have hr2 := pick_range (s := (pickS code 2 (pickS code 6 s1))) (n := 2) hb (by omega)
  have hc4 := hP _ _ 2 k3 (by omega) (by omega)
  have hc5 := hQ _ _ 8 k4 (by omega) (by omega)
  generalize hOO : ([1, 3] : List Int).getD (pickV code 2 (pickS code 6 s1)).toNat 0 = O at *
  generalize hS4 : pickS code 2 (pickS code 2 (pickS code 6 s1)) = s4 at *
  generalize hv2 : pickV code 2 (pickS code 2 (pickS code 6 s1)) = v2 at *
  generalize hs5e : pickS code 8 s4 = s5 at *
  rw [hs5]
  have hlk := fun i => ltSt_ok (code := code) (S := S) (O := O) k5 ⟨hS.1, by omega⟩ i
  rw [if_neg h8] at hLe
  rw [hLe] at hL ⊢
  rw [decide_eq_false h8] at hc5
  unfold srcB at hc1 hc2 hc3 hc4 hc5 ⊢
  unfold srcB at hP hQ
  refine hc_intro tabIs _ Tryz.func53 rfl rfl Tryz.ntmps53 rfl rfl rfl ?_ fun w0 ok0 XM XA anc he0 hX0 => ?_
  · exact likeIn_cons rfl rfl likeIn_nil
  repeat (first | refine awp_seq ?_ | refine then_n ?_ | refine then_r ?_ | refine then_x ?_ | refine block_n ?_ | refine block_r ?_ | refine block_x ?_ | refine u_y ?_ | refine loop_r ?_ | refine loop_x ?_ | refine awp_region ?_ | refine awpL_nil ?_ | refine awpQL_nil ?_ | refine awp_block ?_ | refine awp_skip ?_ | refine awp_exit ?_ | refine awp_label ?_ | refine u_dT ?_ | refine u_d ?_ | refine u_l ?_ | refine u_o ?_ | refine u_q ?_ | refine u_lr ?_ | refine u_qr ?_ | refine u_ls ?_ | refine u_qs ?_ | refine u_t ?_ | refine u_f ?_ | refine v_s ?_ | refine v_o ?_ | refine v_on ?_ | refine v_og ?_ | refine v_q ?_ | refine v_sr ?_ | refine v_k ?_ | refine m_nil ?_)
  refine hcl [(10000, 10000)] [(10000, 10000)] hc1 ?_
  repeat (first | refine awp_seq ?_ | refine then_n ?_ | refine then_r ?_ | refine then_x ?_ | refine block_n ?_ | refine block_r ?_ | refine block_x ?_ | refine u_y ?_ | refine loop_r ?_ | refine loop_x ?_ | refine awp_region ?_ | refine awpL_nil ?_ | refine awpQL_nil ?_ | refine awp_block ?_ | refine awp_skip ?_ | refine awp_exit ?_ | refine awp_label ?_ | refine u_dT ?_ | refine u_d ?_ | refine u_l ?_ | refine u_o ?_ | refine u_q ?_ | refine u_lr ?_ | refine u_qr ?_ | refine u_ls ?_ | refine u_qs ?_ | refine u_t ?_ | refine u_f ?_ | refine v_s ?_ | refine v_o ?_ | refine v_on ?_ | refine v_og ?_ | refine v_q ?_ | refine v_sr ?_ | refine v_k ?_ | refine m_nil ?_)
  rw [hSS]
  refine hcl [(10000, 10000)] [(10000, 10000)] hc2 ?_
  repeat (first | refine awp_seq ?_ | refine then_n ?_ | refine then_r ?_ | refine then_x ?_ | refine block_n ?_ | refine block_r ?_ | refine block_x ?_ | refine u_y ?_ | refine loop_r ?_ | refine loop_x ?_ | refine awp_region ?_ | refine awpL_nil ?_ | refine awpQL_nil ?_ | refine awp_block ?_ | refine awp_skip ?_ | refine awp_exit ?_ | refine awp_label ?_ | refine u_dT ?_ | refine u_d ?_ | refine u_l ?_ | refine u_o ?_ | refine u_q ?_ | refine u_lr ?_ | refine u_qr ?_ | refine u_ls ?_ | refine u_qs ?_ | refine u_t ?_ | refine u_f ?_ | refine v_s ?_ | refine v_o ?_ | refine v_on ?_ | refine v_og ?_ | refine v_q ?_ | refine v_sr ?_ | refine v_k ?_ | refine m_nil ?_)
  refine hcl [(10000, 10000)] [(10000, 10000)] hc3 ?_
  repeat (first | refine awp_seq ?_ | refine then_n ?_ | refine then_r ?_ | refine then_x ?_ | refine block_n ?_ | refine block_r ?_ | refine block_x ?_ | refine u_y ?_ | refine loop_r ?_ | refine loop_x ?_ | refine awp_region ?_ | refine awpL_nil ?_ | refine awpQL_nil ?_ | refine awp_block ?_ | refine awp_skip ?_ | refine awp_exit ?_ | refine awp_label ?_ | refine u_dT ?_ | refine u_d ?_ | refine u_l ?_ | refine u_o ?_ | refine u_q ?_ | refine u_lr ?_ | refine u_qr ?_ | refine u_ls ?_ | refine u_qs ?_ | refine u_t ?_ | refine u_f ?_ | refine v_s ?_ | refine v_o ?_ | refine v_on ?_ | refine v_og ?_ | refine v_q ?_ | refine v_sr ?_ | refine v_k ?_ | refine m_nil ?_)
  refine hcl [(10000, 10000)] [(10000, 10000)] hc4 ?_
  repeat (first | refine awp_seq ?_ | refine then_n ?_ | refine then_r ?_ | refine then_x ?_ | refine block_n ?_ | refine block_r ?_ | refine block_x ?_ | refine u_y ?_ | refine loop_r ?_ | refine loop_x ?_ | refine awp_region ?_ | refine awpL_nil ?_ | refine awpQL_nil ?_ | refine awp_block ?_ | refine awp_skip ?_ | refine awp_exit ?_ | refine awp_label ?_ | refine u_dT ?_ | refine u_d ?_ | refine u_l ?_ | refine u_o ?_ | refine u_q ?_ | refine u_lr ?_ | refine u_qr ?_ | refine u_ls ?_ | refine u_qs ?_ | refine u_t ?_ | refine u_f ?_ | refine v_s ?_ | refine v_o ?_ | refine v_on ?_ | refine v_og ?_ | refine v_q ?_ | refine v_sr ?_ | refine v_k ?_ | refine m_nil ?_)
  refine hcl [(10000, 10000)] [(10000, 10000)] hc5 ?_
  repeat (first | refine awp_seq ?_ | refine then_n ?_ | refine then_r ?_ | refine then_x ?_ | refine block_n ?_ | refine block_r ?_ | refine block_x ?_ | refine u_y ?_ | refine loop_r ?_ | refine loop_x ?_ | refine awp_region ?_ | refine awpL_nil ?_ | refine awpQL_nil ?_ | refine awp_block ?_ | refine awp_skip ?_ | refine awp_exit ?_ | refine awp_label ?_ | refine u_dT ?_ | refine u_d ?_ | refine u_l ?_ | refine u_o ?_ | refine u_q ?_ | refine u_lr ?_ | refine u_qr ?_ | refine u_ls ?_ | refine u_qs ?_ | refine u_t ?_ | refine u_f ?_ | refine v_s ?_ | refine v_o ?_ | refine v_on ?_ | refine v_og ?_ | refine v_q ?_ | refine v_sr ?_ | refine v_k ?_ | refine m_nil ?_)
  refine awp_nilCell 5 2 200 27 1 (by exact rfl) (by exact rfl) rfl rfl rfl ?_
  refine awp_toRows 200 2 1 rfl rfl rfl rfl ?_
  refine awp_nilCell 5 3 201 27 1 (by exact rfl) (by exact rfl) rfl rfl rfl ?_
  refine awp_toRows 201 2 1 rfl rfl rfl rfl ?_
  refine awp_perm _ rfl ?_
  refine awp_loop (fun i : Nat => (i : Int) ≤ 1 + v2) (fun i => [(0, .ref 10000 0), (4, .ref 4 0), (5, .ref 5 0), (6, .d (.int .i64 (1 + v2))), (7, .d (.int .i64 i))]) (fun i => [(4, .box [.d (.int .i64 0), .d (.int .i64 0), .d .nils, .d .nils]), (5, .box [.d (.int .i64 S), .d (.int .i64 O), .own 200, .own 201]), (200, .rows 27 2 1 (rws (ltSt code S O s5 i).1) none), (201, .rows 27 2 1 (rws (ltSt code S O s5 i).2.1) none), (10000, srcB code (ltSt code S O s5 i).2.2)]) (fun i => (1 + v2).toNat - i) 0 (by omega) ?_ (by as_aux_lemma => kernel_rfl) ?_
  · ((repeat (first | exact trivial | (refine ⟨?_, ?_⟩; (focus (first | rfl | (simp [lk, argsS, args0]; done) | (simp [lk, argsS, args0]; omega)))))))
  · intro i hi
    have hli := ltSt_len (code := code) (S := S) (O := O) (s := s5) i
    have hrl1 := rws_length (ltSt code S O s5 i).1
    have hrl2 := rws_length (ltSt code S O s5 i).2.1
    have hki := hlk i
    by_cases hlt : (i : Int) < 1 + v2
    · have hst : ltSt code S O s5 (i + 1) = ((ltSt code S O s5 i).1 ++ [(rowE code S O (ltSt code S O s5 i).2.2).1], (ltSt code S O s5 i).2.1 ++ [(rowE code S O (ltSt code S O s5 i).2.2).2.1], (rowE code S O (ltSt code S O s5 i).2.2).2.2) := rfl
      have hrx := fun x => rowSt_ok (code := code) (S := S) (O := O) hki x
      have hrn := fun x => rowSt_len (code := code) (S := S) (O := O) (s := (ltSt code S O s5 i).2.2) x
      have hrE : rowE code S O (ltSt code S O s5 i).2.2 = (if pickV code 3 (rowSt code S O (ltSt code S O s5 i).2.2 S.toNat).2.2 = 0 then cycL S else (rowSt code S O (ltSt code S O s5 i).2.2 S.toNat).1, (rowSt code S O (ltSt code S O s5 i).2.2 S.toNat).2.1, pickS code 3 (rowSt code S O (ltSt code S O s5 i).2.2 S.toNat).2.2) := rfl
      generalize hsi : (ltSt code S O s5 i).2.2 = si at *
      repeat (first | refine v_w (t := 34) ?_ | refine v_w (t := 33) ?_ | refine awp_seq ?_ | refine then_n ?_ | refine then_r ?_ | refine then_x ?_ | refine block_n ?_ | refine block_r ?_ | refine block_x ?_ | refine u_y ?_ | refine loop_r ?_ | refine loop_x ?_ | refine awp_region ?_ | refine awpL_nil ?_ | refine awpQL_nil ?_ | refine awp_block ?_ | refine awp_skip ?_ | refine awp_exit ?_ | refine awp_label ?_ | refine u_dT ?_ | refine u_d ?_ | refine u_w (t := 33) ?_ | refine u_w (t := 34) ?_ | refine u_l ?_ | refine u_o ?_ | refine u_q ?_ | refine u_lr ?_ | refine u_qr ?_ | refine u_ls ?_ | refine u_qs ?_ | refine u_t ?_ | refine u_f ?_ | refine v_s ?_ | refine v_o ?_ | refine v_on ?_ | refine v_og ?_ | refine v_q ?_ | refine v_sr ?_ | refine v_k ?_ | refine m_nil ?_)
      refine awp_perm _ rfl ?_
      refine awp_loop (fun x : Nat => (x : Int) ≤ S) (fun x => [(0, .ref 10000 0), (4, .ref 4 0), (5, .ref 5 0), (6, .d (.int .i64 (1 + v2))), (7, .d (.int .i64 i)), (8, .own 33), (9, .own 34), (10, .d (.int .i64 x))])
        (fun x => [(4, .box [.d (.int .i64 0), .d (.int .i64 0), .d .nils, .d .nils]), (5, .box [.d (.int .i64 S), .d (.int .i64 O), .own 200, .own 201]), (33, .arr 2 1 ((rowSt code S O si x).1.map (.int .i64))), (34, .arr 2 1 ((rowSt code S O si x).2.1.map (.int .i64))), (200, .rows 27 2 1 (rws (ltSt code S O s5 i).1) none), (201, .rows 27 2 1 (rws (ltSt code S O s5 i).2.1) none), (10000, srcB code (rowSt code S O si x).2.2)]) (fun x => S.toNat - x) 0 (by omega) ?_ (by as_aux_lemma => kernel_rfl) ?_
      · ((repeat (first | exact trivial | (refine ⟨?_, ?_⟩; (focus (first | rfl | (simp [lk, argsS, args0]; done) | (simp [lk, argsS, args0]; omega)))))))
      · intro x hx
        have hkx := hrx x
        have hnx := hrn x
        have hm1 : ((rowSt code S O si x).1.map (D.int .i64)).length = x := by simp [hnx.1]
        have hm2 : ((rowSt code S O si x).2.1.map (D.int .i64)).length = x := by simp [hnx.2]
        by_cases hxl : (x : Int) < S
        · have hsx : rowSt code S O si (x + 1) = ((rowSt code S O si x).1 ++ [pickV code S (rowSt code S O si x).2.2], (rowSt code S O si x).2.1 ++ [pickV code O (pickS code S (rowSt code S O si x).2.2)], pickS code O (pickS code S (rowSt code S O si x).2.2)) := rfl
          have q1 := hP _ _ S hkx (by omega) (by omega)
          have q2 := hP _ _ O (pick_ok (code := code) (n := S) hkx) (by omega) (by omega)
          generalize rowSt code S O si x = r at *
          repeat (first | refine awp_seq ?_ | refine then_n ?_ | refine then_r ?_ | refine then_x ?_ | refine block_n ?_ | refine block_r ?_ | refine block_x ?_ | refine u_y ?_ | refine loop_r ?_ | refine loop_x ?_ | refine awp_region ?_ | refine awpL_nil ?_ | refine awpQL_nil ?_ | refine awp_block ?_ | refine awp_skip ?_ | refine awp_exit ?_ | refine awp_label ?_ | refine u_dT ?_ | refine u_d ?_ | refine u_l ?_ | refine u_o ?_ | refine u_q ?_ | refine u_lr ?_ | refine u_qr ?_ | refine u_ls ?_ | refine u_qs ?_ | refine u_t ?_ | refine u_f ?_ | refine v_s ?_ | refine v_o ?_ | refine v_on ?_ | refine v_og ?_ | refine v_q ?_ | refine v_sr ?_ | refine v_k ?_ | refine m_nil ?_)
          refine hcl [(10000, 10000)] [(10000, 10000)] q1 ?_
          repeat (first | refine awp_seq ?_ | refine then_n ?_ | refine then_r ?_ | refine then_x ?_ | refine block_n ?_ | refine block_r ?_ | refine block_x ?_ | refine u_y ?_ | refine loop_r ?_ | refine loop_x ?_ | refine awp_region ?_ | refine awpL_nil ?_ | refine awpQL_nil ?_ | refine awp_block ?_ | refine awp_skip ?_ | refine awp_exit ?_ | refine awp_label ?_ | refine u_dT ?_ | refine u_d ?_ | refine u_l ?_ | refine u_o ?_ | refine u_q ?_ | refine u_lr ?_ | refine u_qr ?_ | refine u_ls ?_ | refine u_qs ?_ | refine u_t ?_ | refine u_f ?_ | refine v_s ?_ | refine v_o ?_ | refine v_on ?_ | refine v_og ?_ | refine v_q ?_ | refine v_sr ?_ | refine v_k ?_ | refine m_nil ?_)
          refine hcl [(10000, 10000)] [(10000, 10000)] q2 ?_
          repeat (first | refine awp_seq ?_ | refine then_n ?_ | refine then_r ?_ | refine then_x ?_ | refine block_n ?_ | refine block_r ?_ | refine block_x ?_ | refine u_y ?_ | refine loop_r ?_ | refine loop_x ?_ | refine awpL_nil ?_ | refine awpQL_nil ?_ | refine awp_block ?_ | refine awp_skip ?_ | refine awp_exit ?_ | refine awp_label ?_ | refine u_dT ?_ | refine u_d ?_ | refine u_l ?_ | refine u_o ?_ | refine u_q ?_ | refine u_lr ?_ | refine u_qr ?_ | refine u_ls ?_ | refine u_qs ?_ | refine u_t ?_ | refine u_f ?_ | refine v_s ?_ | refine v_o ?_ | refine v_on ?_ | refine v_og ?_ | refine v_q ?_ | refine v_sr ?_ | refine v_k ?_ | refine m_nil ?_)
          refine awp_perm _ rfl ?_
          repeat (first | refine awp_seq ?_ | refine then_n ?_ | refine then_r ?_ | refine then_x ?_ | refine block_n ?_ | refine block_r ?_ | refine block_x ?_ | refine u_y ?_ | refine loop_r ?_ | refine loop_x ?_ | refine awp_region ?_ | refine awpL_nil ?_ | refine awpQL_nil ?_ | refine awp_block ?_ | refine awp_skip ?_ | refine awp_exit ?_ | refine awp_label ?_ | refine u_dT ?_ | refine u_d ?_ | refine u_l ?_ | refine u_o ?_ | refine u_q ?_ | refine u_lr ?_ | refine u_qr ?_ | refine u_ls ?_ | refine u_qs ?_ | refine u_t ?_ | refine u_f ?_ | refine v_s ?_ | refine v_o ?_ | refine v_on ?_ | refine v_og ?_ | refine v_q ?_ | refine v_sr ?_ | refine v_k ?_ | refine m_nil ?_)
          refine loop_n (x + 1) (by omega) ?_ ?_ (by omega)
          · ((repeat (first | exact trivial | (refine ⟨?_, ?_⟩; (focus (first | rfl | (simp [lk, argsS, args0]; done) | (simp [lk, argsS, args0]; omega)))))))
          · rw [hsx]; simp only [List.map_append]; (as_aux_lemma => kernel_rfl)
        · have hxS : x = S.toNat := by omega
          subst hxS
          have q3 := hQ _ _ 3 hkx (by omega) (by omega)
          generalize hrr : rowSt code S O si S.toNat = r at *
          by_cases hb3 : pickV code 3 r.2.2 = 0
          · rw [if_pos hb3] at hrE
            rw [decide_eq_true hb3] at q3
            repeat (first | refine awp_seq ?_ | refine then_n ?_ | refine then_r ?_ | refine then_x ?_ | refine block_n ?_ | refine block_r ?_ | refine block_x ?_ | refine u_y ?_ | refine loop_r ?_ | refine loop_x ?_ | refine awp_region ?_ | refine awpL_nil ?_ | refine awpQL_nil ?_ | refine awp_block ?_ | refine awp_skip ?_ | refine awp_exit ?_ | refine awp_label ?_ | refine u_dT ?_ | refine u_d ?_ | refine u_l ?_ | refine u_o ?_ | refine u_q ?_ | refine u_lr ?_ | refine u_qr ?_ | refine u_ls ?_ | refine u_qs ?_ | refine u_t ?_ | refine u_f ?_ | refine v_s ?_ | refine v_o ?_ | refine v_on ?_ | refine v_og ?_ | refine v_q ?_ | refine v_sr ?_ | refine v_k ?_ | refine m_nil ?_)
            refine hcl [(10000, 10000)] [(10000, 10000)] q3 ?_
            repeat (first | refine awp_seq ?_ | refine then_n ?_ | refine then_r ?_ | refine then_x ?_ | refine block_n ?_ | refine block_r ?_ | refine block_x ?_ | refine u_y ?_ | refine loop_r ?_ | refine loop_x ?_ | refine awp_region ?_ | refine awpL_nil ?_ | refine awpQL_nil ?_ | refine awp_block ?_ | refine awp_skip ?_ | refine awp_exit ?_ | refine awp_label ?_ | refine u_dT ?_ | refine u_d ?_ | refine u_l ?_ | refine u_o ?_ | refine u_q ?_ | refine u_lr ?_ | refine u_qr ?_ | refine u_ls ?_ | refine u_qs ?_ | refine u_t ?_ | refine u_f ?_ | refine v_s ?_ | refine v_o ?_ | refine v_on ?_ | refine v_og ?_ | refine v_q ?_ | refine v_sr ?_ | refine v_k ?_ | refine m_nil ?_)
            refine awp_perm _ rfl ?_
            refine awp_loop (fun y : Nat => (y : Int) ≤ S) (fun y => [(0, .ref 10000 0), (4, .ref 4 0), (5, .ref 5 0), (6, .d (.int .i64 (1 + v2))), (7, .d (.int .i64 i)), (8, .own 33), (9, .own 34), (11, .d (.int .i64 y))])
              (fun y => [(4, .box [.d (.int .i64 0), .d (.int .i64 0), .d .nils, .d .nils]), (5, .box [.d (.int .i64 S), .d (.int .i64 O), .own 200, .own 201]), (33, .arr 2 1 (((cycL S).take y ++ r.1.drop y).map (.int .i64))), (34, .arr 2 1 (r.2.1.map (.int .i64))), (200, .rows 27 2 1 (rws (ltSt code S O s5 i).1) none), (201, .rows 27 2 1 (rws (ltSt code S O s5 i).2.1) none), (10000, srcB code (pickS code 3 r.2.2))]) (fun y => S.toNat - y) 0 (by omega) ?_ ?_ ?_
            · ((repeat (first | exact trivial | (refine ⟨?_, ?_⟩; (focus (first | rfl | (simp [lk, argsS, args0]; done) | (simp [lk, argsS, args0]; omega)))))))
            · simp only [List.take_zero, List.nil_append, List.drop_zero]
              (as_aux_lemma => kernel_rfl)
            · intro y hy
              have hcl2 : (cycL S).length = S.toNat := by simp [cycL]
              have hly : (((cycL S).take y ++ r.1.drop y).map (D.int .i64)).length = S.toNat := by simp [hcl2, hnx.1]; omega
              by_cases hyl : (y : Int) < S
              · have hyn : y < S.toNat := by omega
                have hset : (((cycL S).take y ++ r.1.drop y).map (D.int .i64)).set (y : Int).toNat (.int .i64 (((y : Int) + 1) % S)) = ((cycL S).take (y + 1) ++ r.1.drop (y + 1)).map (D.int .i64) := by
                  rw [Int.toNat_natCast, List.map_append, List.map_append, List.drop_eq_getElem_cons (by rw [hnx.1]; exact hyn), List.map_cons]
                  have hlt2 : (((cycL S).take y).map (D.int .i64)).length = y := by simp [hcl2]; omega
                  rw [List.set_append_right _ _ (by omega), hlt2, Nat.sub_self, List.set_cons_zero, List.take_succ_eq_append_getElem (by rw [hcl2]; exact hyn), List.map_append]
                  have hce : (cycL S)[y]'(by rw [hcl2]; exact hyn) = ((y : Int) + 1) % S := by simp [cycL]
                  simp [hce]
                repeat (first | refine awp_seq ?_ | refine then_n ?_ | refine then_r ?_ | refine then_x ?_ | refine block_n ?_ | refine block_r ?_ | refine block_x ?_ | refine u_y ?_ | refine loop_r ?_ | refine loop_x ?_ | refine awp_region ?_ | refine awpL_nil ?_ | refine awpQL_nil ?_ | refine awp_block ?_ | refine awp_skip ?_ | refine awp_exit ?_ | refine awp_label ?_ | refine u_dT ?_ | refine u_d ?_ | refine u_l ?_ | refine u_o ?_ | refine u_q ?_ | refine u_lr ?_ | refine u_qr ?_ | refine u_ls ?_ | refine u_qs ?_ | refine u_t ?_ | refine u_f ?_ | refine v_s ?_ | refine v_o ?_ | refine v_on ?_ | refine v_og ?_ | refine v_q ?_ | refine v_sr ?_ | refine v_k ?_ | refine m_nil ?_)
                refine loop_n (y + 1) (by omega) ?_ ?_ (by omega)
                · ((repeat (first | exact trivial | (refine ⟨?_, ?_⟩; (focus (first | rfl | (simp [lk, argsS, args0]; done) | (simp [lk, argsS, args0]; omega)))))))
                · rw [← hset]; (as_aux_lemma => kernel_rfl)
              · have hyS : y = S.toNat := by omega
                subst hyS
                have hfin : (cycL S).take S.toNat ++ r.1.drop S.toNat = cycL S := by
                  rw [List.take_of_length_le (by omega), List.drop_eq_nil_of_le (by omega), List.append_nil]
                rw [hfin]
                have ra : rws ((ltSt code S O s5 i).1 ++ [cycL S]) = rws (ltSt code S O s5 i).1 ++ [(cycL S).map (.int .i64)] := by simp [rws]
                have rb : rws ((ltSt code S O s5 i).2.1 ++ [r.2.1]) = rws (ltSt code S O s5 i).2.1 ++ [r.2.1.map (.int .i64)] := by simp [rws]
                repeat (first | refine awp_seq ?_ | refine then_n ?_ | refine then_r ?_ | refine then_x ?_ | refine block_n ?_ | refine block_r ?_ | refine block_x ?_ | refine u_y ?_ | refine loop_r ?_ | refine loop_x ?_ | refine awpL_nil ?_ | refine awpQL_nil ?_ | refine awp_block ?_ | refine awp_skip ?_ | refine awp_exit ?_ | refine awp_label ?_ | refine u_dT ?_ | refine u_d ?_ | refine u_l ?_ | refine u_o ?_ | refine u_q ?_ | refine u_lr ?_ | refine u_qr ?_ | refine u_ls ?_ | refine u_qs ?_ | refine u_t ?_ | refine u_f ?_ | refine v_s ?_ | refine v_o ?_ | refine v_on ?_ | refine v_og ?_ | refine v_q ?_ | refine v_sr ?_ | refine v_k ?_ | refine m_nil ?_)
                refine awp_region ?_
                repeat (first | refine awp_seq ?_ | refine then_n ?_ | refine then_r ?_ | refine then_x ?_ | refine block_n ?_ | refine block_r ?_ | refine block_x ?_ | refine u_y ?_ | refine loop_r ?_ | refine loop_x ?_ | refine awpL_nil ?_ | refine awpQL_nil ?_ | refine awp_block ?_ | refine awp_skip ?_ | refine awp_exit ?_ | refine awp_label ?_ | refine u_dT ?_ | refine u_d ?_ | refine u_l ?_ | refine u_o ?_ | refine u_q ?_ | refine u_lr ?_ | refine u_qr ?_ | refine u_ls ?_ | refine u_qs ?_ | refine u_t ?_ | refine u_f ?_ | refine v_s ?_ | refine v_o ?_ | refine v_on ?_ | refine v_og ?_ | refine v_q ?_ | refine v_sr ?_ | refine v_k ?_ | refine m_nil ?_)
                refine awp_region ?_
                repeat (first | refine awp_seq ?_ | refine then_n ?_ | refine then_r ?_ | refine then_x ?_ | refine block_n ?_ | refine block_r ?_ | refine block_x ?_ | refine u_y ?_ | refine loop_r ?_ | refine loop_x ?_ | refine awpL_nil ?_ | refine awpQL_nil ?_ | refine awp_block ?_ | refine awp_skip ?_ | refine awp_exit ?_ | refine awp_label ?_ | refine u_dT ?_ | refine u_d ?_ | refine u_l ?_ | refine u_o ?_ | refine u_q ?_ | refine u_lr ?_ | refine u_qr ?_ | refine u_ls ?_ | refine u_qs ?_ | refine u_t ?_ | refine u_f ?_ | refine v_s ?_ | refine v_o ?_ | refine v_on ?_ | refine v_og ?_ | refine v_q ?_ | refine v_sr ?_ | refine v_k ?_ | refine m_nil ?_)
                refine awp_region ?_
                repeat (first | refine awp_seq ?_ | refine then_n ?_ | refine then_r ?_ | refine then_x ?_ | refine block_n ?_ | refine block_r ?_ | refine block_x ?_ | refine u_y ?_ | refine loop_r ?_ | refine loop_x ?_ | refine awpL_nil ?_ | refine awpQL_nil ?_ | refine awp_block ?_ | refine awp_skip ?_ | refine awp_exit ?_ | refine awp_label ?_ | refine u_dT ?_ | refine u_d ?_ | refine u_l ?_ | refine u_o ?_ | refine u_q ?_ | refine u_lr ?_ | refine u_qr ?_ | refine u_ls ?_ | refine u_qs ?_ | refine u_t ?_ | refine u_f ?_ | refine v_s ?_ | refine v_o ?_ | refine v_on ?_ | refine v_og ?_ | refine v_q ?_ | refine v_sr ?_ | refine v_k ?_ | refine m_nil ?_)
                refine awp_perm _ rfl ?_
                repeat (first | refine awp_seq ?_ | refine then_n ?_ | refine then_r ?_ | refine then_x ?_ | refine block_n ?_ | refine block_r ?_ | refine block_x ?_ | refine u_y ?_ | refine loop_r ?_ | refine loop_x ?_ | refine awp_region ?_ | refine awpL_nil ?_ | refine awpQL_nil ?_ | refine awp_block ?_ | refine awp_skip ?_ | refine awp_exit ?_ | refine awp_label ?_ | refine u_dT ?_ | refine u_d ?_ | refine u_l ?_ | refine u_o ?_ | refine u_q ?_ | refine u_lr ?_ | refine u_qr ?_ | refine u_ls ?_ | refine u_qs ?_ | refine u_t ?_ | refine u_f ?_ | refine v_s ?_ | refine v_o ?_ | refine v_on ?_ | refine v_og ?_ | refine v_q ?_ | refine v_sr ?_ | refine v_k ?_ | refine m_nil ?_)
                refine loop_n (i + 1) (by omega) ?_ ?_ (by omega)
                · ((repeat (first | exact trivial | (refine ⟨?_, ?_⟩; (focus (first | rfl | (simp [lk, argsS, args0]; done) | (simp [lk, argsS, args0]; omega)))))))
                · rw [hst, hrE]; simp only []; rw [ra, rb]; (as_aux_lemma => kernel_rfl)
          · rw [if_neg hb3] at hrE
            rw [decide_eq_false hb3] at q3
            have ra : rws ((ltSt code S O s5 i).1 ++ [r.1]) = rws (ltSt code S O s5 i).1 ++ [r.1.map (.int .i64)] := by simp [rws]
            have rb : rws ((ltSt code S O s5 i).2.1 ++ [r.2.1]) = rws (ltSt code S O s5 i).2.1 ++ [r.2.1.map (.int .i64)] := by simp [rws]
            repeat (first | refine awp_seq ?_ | refine then_n ?_ | refine then_r ?_ | refine then_x ?_ | refine block_n ?_ | refine block_r ?_ | refine block_x ?_ | refine u_y ?_ | refine loop_r ?_ | refine loop_x ?_ | refine awp_region ?_ | refine awpL_nil ?_ | refine awpQL_nil ?_ | refine awp_block ?_ | refine awp_skip ?_ | refine awp_exit ?_ | refine awp_label ?_ | refine u_dT ?_ | refine u_d ?_ | refine u_l ?_ | refine u_o ?_ | refine u_q ?_ | refine u_lr ?_ | refine u_qr ?_ | refine u_ls ?_ | refine u_qs ?_ | refine u_t ?_ | refine u_f ?_ | refine v_s ?_ | refine v_o ?_ | refine v_on ?_ | refine v_og ?_ | refine v_q ?_ | refine v_sr ?_ | refine v_k ?_ | refine m_nil ?_)
            refine hcl [(10000, 10000)] [(10000, 10000)] q3 ?_
            repeat (first | refine awp_seq ?_ | refine then_n ?_ | refine then_r ?_ | refine then_x ?_ | refine block_n ?_ | refine block_r ?_ | refine block_x ?_ | refine u_y ?_ | refine loop_r ?_ | refine loop_x ?_ | refine awpL_nil ?_ | refine awpQL_nil ?_ | refine awp_block ?_ | refine awp_skip ?_ | refine awp_exit ?_ | refine awp_label ?_ | refine u_dT ?_ | refine u_d ?_ | refine u_l ?_ | refine u_o ?_ | refine u_q ?_ | refine u_lr ?_ | refine u_qr ?_ | refine u_ls ?_ | refine u_qs ?_ | refine u_t ?_ | refine u_f ?_ | refine v_s ?_ | refine v_o ?_ | refine v_on ?_ | refine v_og ?_ | refine v_q ?_ | refine v_sr ?_ | refine v_k ?_ | refine m_nil ?_)
            refine awp_region ?_
            repeat (first | refine awp_seq ?_ | refine then_n ?_ | refine then_r ?_ | refine then_x ?_ | refine block_n ?_ | refine block_r ?_ | refine block_x ?_ | refine u_y ?_ | refine loop_r ?_ | refine loop_x ?_ | refine awpL_nil ?_ | refine awpQL_nil ?_ | refine awp_block ?_ | refine awp_skip ?_ | refine awp_exit ?_ | refine awp_label ?_ | refine u_dT ?_ | refine u_d ?_ | refine u_l ?_ | refine u_o ?_ | refine u_q ?_ | refine u_lr ?_ | refine u_qr ?_ | refine u_ls ?_ | refine u_qs ?_ | refine u_t ?_ | refine u_f ?_ | refine v_s ?_ | refine v_o ?_ | refine v_on ?_ | refine v_og ?_ | refine v_q ?_ | refine v_sr ?_ | refine v_k ?_ | refine m_nil ?_)
            refine awp_region ?_
            repeat (first | refine awp_seq ?_ | refine then_n ?_ | refine then_r ?_ | refine then_x ?_ | refine block_n ?_ | refine block_r ?_ | refine block_x ?_ | refine u_y ?_ | refine loop_r ?_ | refine loop_x ?_ | refine awpL_nil ?_ | refine awpQL_nil ?_ | refine awp_block ?_ | refine awp_skip ?_ | refine awp_exit ?_ | refine awp_label ?_ | refine u_dT ?_ | refine u_d ?_ | refine u_l ?_ | refine u_o ?_ | refine u_q ?_ | refine u_lr ?_ | refine u_qr ?_ | refine u_ls ?_ | refine u_qs ?_ | refine u_t ?_ | refine u_f ?_ | refine v_s ?_ | refine v_o ?_ | refine v_on ?_ | refine v_og ?_ | refine v_q ?_ | refine v_sr ?_ | refine v_k ?_ | refine m_nil ?_)
            refine awp_perm _ rfl ?_
            repeat (first | refine awp_seq ?_ | refine then_n ?_ | refine then_r ?_ | refine then_x ?_ | refine block_n ?_ | refine block_r ?_ | refine block_x ?_ | refine u_y ?_ | refine loop_r ?_ | refine loop_x ?_ | refine awp_region ?_ | refine awpL_nil ?_ | refine awpQL_nil ?_ | refine awp_block ?_ | refine awp_skip ?_ | refine awp_exit ?_ | refine awp_label ?_ | refine u_dT ?_ | refine u_d ?_ | refine u_l ?_ | refine u_o ?_ | refine u_q ?_ | refine u_lr ?_ | refine u_qr ?_ | refine u_ls ?_ | refine u_qs ?_ | refine u_t ?_ | refine u_f ?_ | refine v_s ?_ | refine v_o ?_ | refine v_on ?_ | refine v_og ?_ | refine v_q ?_ | refine v_sr ?_ | refine v_k ?_ | refine m_nil ?_)
            refine loop_n (i + 1) (by omega) ?_ ?_ (by omega)
            · ((repeat (first | exact trivial | (refine ⟨?_, ?_⟩; (focus (first | rfl | (simp [lk, argsS, args0]; done) | (simp [lk, argsS, args0]; omega)))))))
            · rw [hst, hrE]; simp only []; rw [ra, rb]; (as_aux_lemma => kernel_rfl)
    · have hiL : i = (1 + v2).toNat := by omega
      subst hiL
      repeat (first | refine awp_seq ?_ | refine then_n ?_ | refine then_r ?_ | refine then_x ?_ | refine block_n ?_ | refine block_r ?_ | refine block_x ?_ | refine u_y ?_ | refine loop_r ?_ | refine loop_x ?_ | refine awp_region ?_ | refine awpL_nil ?_ | refine awpQL_nil ?_ | refine awp_block ?_ | refine awp_skip ?_ | refine awp_exit ?_ | refine awp_label ?_ | refine u_dT ?_ | refine u_d ?_ | refine u_l ?_ | refine u_o ?_ | refine u_q ?_ | refine u_lr ?_ | refine u_qr ?_ | refine u_ls ?_ | refine u_qs ?_ | refine u_t ?_ | refine u_f ?_ | refine v_s ?_ | refine v_o ?_ | refine v_on ?_ | refine v_og ?_ | refine v_q ?_ | refine v_sr ?_ | refine v_k ?_ | refine m_nil ?_)
      (refine awp_ret ?_; (repeat (first | refine then_r ?_ | refine block_r ?_ | refine loop_r ?_)); refine u_rH [(10000, 10000), (200, 30000), (201, 30001)] ?_ ?_)
      · rfl
      · rfl

end Go.Proofs.YtffmlijngfhhaaaGreatDoor

/-! The reference's draw of a machine, walked. No condition. -/
namespace Go.Proofs.YtffmlijngfhhaaaGreatDoor
open Go
attribute [local irreducible] awp awpL awpQL awpQ awpM pWalk Qt AC thenQ blockQ loopQ OpTo
set_option linter.unusedVariables false
set_option linter.unusedSimpArgs false
set_option maxHeartbeats 2000000
attribute [local irreducible] HC

theorem l06Draw_01 {code : List Int} {most : Int} {s : Src} {k : Nat} (hb : BytesOk code) (hm : 1 ≤ most ∧ most ≤ 9) (h : SOk s k) (hk : k ≤ 999999000) (h6 : pickV code 6 (pickS code most s) ≠ 0) (h8 : pickV code 8 (pickS code 2 (pickS code 6 (pickS code most s))) = 0) :
    HC Tryz.prog 53 [.ref 10000 0, .d (.int .i64 most)] [(10000, srcB code s)] (.agg [.d (.int .i64 (drS code most s)), .d (.int .i64 (drO code (pickS code most s))), .own 30000, .own 30001])
      [(10000, srcB code (drM code most s).2.2), (30000, .rows 27 2 1 (rws (drM code most s).1) none), (30001, .rows 27 2 1 (rws (drM code most s).2.1) none)] := by
  have hS := drS_range (s := s) hb hm
  have hO := drO_range (s := pickS code most s) hb
  have hL := drL_range (s := drs3 code (pickS code most s)) hb
  have hP : ∀ (s : Src) (k : Nat) (n : Int), SOk s k → k ≤ 999999990 → n ≤ 1000 → HC Tryz.prog 58 [.ref 10000 0, .d (.int .i64 n)] [(10000, srcB code s)] (.d (.int .i64 (pickV code n s))) [(10000, srcB code (pickS code n s))] := fun s k n a b c => spec_pick hb a b (by omega)
  have hQ : ∀ (s : Src) (k : Nat) (n : Int), SOk s k → k ≤ 999999990 → n ≤ 1000 → HC Tryz.prog 51 [.ref 10000 0, .d (.int .i64 n)] [(10000, srcB code s)] (.d (.bool (decide (pickV code n s = 0)))) [(10000, srcB code (pickS code n s))] := fun s k n a b c => spec_one hb a b (by omega)
  have hA : ∀ (s : Src) (k : Nat), SOk s k → k ≤ 999999990 → HC Tryz.prog 107 [.ref 10000 0, .d (.lst [.int .i64 1, .int .i64 3])] [(10000, srcB code s)] (.d (.int .i64 ([1, 3].getD (pickV code 2 s).toNat 0))) [(10000, srcB code (pickS code 2 s))] := fun s k a b => spec_among (l := [1, 3]) hb a b (by simp) (by simp)
  have k1 := pick_ok (code := code) (n := most) h
  have hr0 := pick_range (s := s) (n := most) hb hm.1
  unfold drM
  have hSe : drS code most s = 1 + pickV code most s := rfl
  rw [hSe] at hS ⊢
  generalize hs1 : pickS code most s = s1 at *
  generalize hv1 : pickV code most s = v1 at *
  have hc1 := hP s k most h (by omega) (by omega)
  rw [hs1, hv1] at hc1
  generalize hSS : 1 + v1 = S at *
  have hOe : drO code s1 = if pickV code 6 s1 = 0 then [1, 3].getD (pickV code 2 (pickS code 6 s1)).toNat 0 else 2 := rfl
  have hs3 : drs3 code s1 = if pickV code 6 s1 = 0 then pickS code 2 (pickS code 6 s1) else pickS code 6 s1 := rfl
  rw [if_neg h6] at hOe hs3
  have hc2 := hQ _ _ 6 k1 (by omega) (by omega)
  rw [decide_eq_false h6] at hc2
  have k2 := pick_ok (code := code) (n := 6) k1
  have k3 := k2
  rw [hOe] at hO
  rw [hs3] at hL
  rw [hOe, hs3]
  have hLe : drL code (pickS code 6 s1) = if pickV code 8 (pickS code 2 (pickS code 6 s1)) = 0 then 3 else 1 + pickV code 2 (pickS code 6 s1) := rfl
  have hs5 : drs5 code (pickS code 6 s1) = pickS code 8 (pickS code 2 (pickS code 6 s1)) := rfl
  have k4 := pick_ok (code := code) (n := 2) k3
  have k5 := pick_ok (code := code) (n := 8) k4
  have hr2 := pick_range (s := (pickS code 6 s1)) (n := 2) hb (by omega)
  have hc4 := hP _ _ 2 k3 (by omega) (by omega)
  have hc5 := hQ _ _ 8 k4 (by omega) (by omega)
  generalize hS4 : pickS code 2 (pickS code 6 s1) = s4 at *
  generalize hv2 : pickV code 2 (pickS code 6 s1) = v2 at *
  generalize hs5e : pickS code 8 s4 = s5 at *
  rw [hs5]
  have hlk := fun i => ltSt_ok (code := code) (S := S) (O := (2 : Int)) k5 ⟨hS.1, by omega⟩ i
  rw [if_pos h8] at hLe
  rw [hLe] at hL ⊢
  rw [decide_eq_true h8] at hc5
  unfold srcB at hc1 hc2 hc4 hc5 ⊢
  unfold srcB at hP hQ
  refine hc_intro tabIs _ Tryz.func53 rfl rfl Tryz.ntmps53 rfl rfl rfl ?_ fun w0 ok0 XM XA anc he0 hX0 => ?_
  · exact likeIn_cons rfl rfl likeIn_nil
  repeat (first | refine awp_seq ?_ | refine then_n ?_ | refine then_r ?_ | refine then_x ?_ | refine block_n ?_ | refine block_r ?_ | refine block_x ?_ | refine u_y ?_ | refine loop_r ?_ | refine loop_x ?_ | refine awp_region ?_ | refine awpL_nil ?_ | refine awpQL_nil ?_ | refine awp_block ?_ | refine awp_skip ?_ | refine awp_exit ?_ | refine awp_label ?_ | refine u_dT ?_ | refine u_d ?_ | refine u_l ?_ | refine u_o ?_ | refine u_q ?_ | refine u_lr ?_ | refine u_qr ?_ | refine u_ls ?_ | refine u_qs ?_ | refine u_t ?_ | refine u_f ?_ | refine v_s ?_ | refine v_o ?_ | refine v_on ?_ | refine v_og ?_ | refine v_q ?_ | refine v_sr ?_ | refine v_k ?_ | refine m_nil ?_)
  refine hcl [(10000, 10000)] [(10000, 10000)] hc1 ?_
  repeat (first | refine awp_seq ?_ | refine then_n ?_ | refine then_r ?_ | refine then_x ?_ | refine block_n ?_ | refine block_r ?_ | refine block_x ?_ | refine u_y ?_ | refine loop_r ?_ | refine loop_x ?_ | refine awp_region ?_ | refine awpL_nil ?_ | refine awpQL_nil ?_ | refine awp_block ?_ | refine awp_skip ?_ | refine awp_exit ?_ | refine awp_label ?_ | refine u_dT ?_ | refine u_d ?_ | refine u_l ?_ | refine u_o ?_ | refine u_q ?_ | refine u_lr ?_ | refine u_qr ?_ | refine u_ls ?_ | refine u_qs ?_ | refine u_t ?_ | refine u_f ?_ | refine v_s ?_ | refine v_o ?_ | refine v_on ?_ | refine v_og ?_ | refine v_q ?_ | refine v_sr ?_ | refine v_k ?_ | refine m_nil ?_)
  rw [hSS]
  refine hcl [(10000, 10000)] [(10000, 10000)] hc2 ?_
  repeat (first | refine awp_seq ?_ | refine then_n ?_ | refine then_r ?_ | refine then_x ?_ | refine block_n ?_ | refine block_r ?_ | refine block_x ?_ | refine u_y ?_ | refine loop_r ?_ | refine loop_x ?_ | refine awp_region ?_ | refine awpL_nil ?_ | refine awpQL_nil ?_ | refine awp_block ?_ | refine awp_skip ?_ | refine awp_exit ?_ | refine awp_label ?_ | refine u_dT ?_ | refine u_d ?_ | refine u_l ?_ | refine u_o ?_ | refine u_q ?_ | refine u_lr ?_ | refine u_qr ?_ | refine u_ls ?_ | refine u_qs ?_ | refine u_t ?_ | refine u_f ?_ | refine v_s ?_ | refine v_o ?_ | refine v_on ?_ | refine v_og ?_ | refine v_q ?_ | refine v_sr ?_ | refine v_k ?_ | refine m_nil ?_)
  refine hcl [(10000, 10000)] [(10000, 10000)] hc4 ?_
  repeat (first | refine awp_seq ?_ | refine then_n ?_ | refine then_r ?_ | refine then_x ?_ | refine block_n ?_ | refine block_r ?_ | refine block_x ?_ | refine u_y ?_ | refine loop_r ?_ | refine loop_x ?_ | refine awp_region ?_ | refine awpL_nil ?_ | refine awpQL_nil ?_ | refine awp_block ?_ | refine awp_skip ?_ | refine awp_exit ?_ | refine awp_label ?_ | refine u_dT ?_ | refine u_d ?_ | refine u_l ?_ | refine u_o ?_ | refine u_q ?_ | refine u_lr ?_ | refine u_qr ?_ | refine u_ls ?_ | refine u_qs ?_ | refine u_t ?_ | refine u_f ?_ | refine v_s ?_ | refine v_o ?_ | refine v_on ?_ | refine v_og ?_ | refine v_q ?_ | refine v_sr ?_ | refine v_k ?_ | refine m_nil ?_)
  refine hcl [(10000, 10000)] [(10000, 10000)] hc5 ?_
  repeat (first | refine awp_seq ?_ | refine then_n ?_ | refine then_r ?_ | refine then_x ?_ | refine block_n ?_ | refine block_r ?_ | refine block_x ?_ | refine u_y ?_ | refine loop_r ?_ | refine loop_x ?_ | refine awp_region ?_ | refine awpL_nil ?_ | refine awpQL_nil ?_ | refine awp_block ?_ | refine awp_skip ?_ | refine awp_exit ?_ | refine awp_label ?_ | refine u_dT ?_ | refine u_d ?_ | refine u_l ?_ | refine u_o ?_ | refine u_q ?_ | refine u_lr ?_ | refine u_qr ?_ | refine u_ls ?_ | refine u_qs ?_ | refine u_t ?_ | refine u_f ?_ | refine v_s ?_ | refine v_o ?_ | refine v_on ?_ | refine v_og ?_ | refine v_q ?_ | refine v_sr ?_ | refine v_k ?_ | refine m_nil ?_)
  refine awp_nilCell 5 2 200 27 1 (by exact rfl) (by exact rfl) rfl rfl rfl ?_
  refine awp_toRows 200 2 1 rfl rfl rfl rfl ?_
  refine awp_nilCell 5 3 201 27 1 (by exact rfl) (by exact rfl) rfl rfl rfl ?_
  refine awp_toRows 201 2 1 rfl rfl rfl rfl ?_
  refine awp_perm _ rfl ?_
  refine awp_loop (fun i : Nat => (i : Int) ≤ (3 : Int)) (fun i => [(0, .ref 10000 0), (4, .ref 4 0), (5, .ref 5 0), (6, .d (.int .i64 ((3 : Int)))), (7, .d (.int .i64 i))]) (fun i => [(4, .box [.d (.int .i64 0), .d (.int .i64 0), .d .nils, .d .nils]), (5, .box [.d (.int .i64 S), .d (.int .i64 (2 : Int)), .own 200, .own 201]), (200, .rows 27 2 1 (rws (ltSt code S (2 : Int) s5 i).1) none), (201, .rows 27 2 1 (rws (ltSt code S (2 : Int) s5 i).2.1) none), (10000, srcB code (ltSt code S (2 : Int) s5 i).2.2)]) (fun i => ((3 : Int)).toNat - i) 0 (by omega) ?_ (by as_aux_lemma => kernel_rfl) ?_
  · ((repeat (first | exact trivial | (refine ⟨?_, ?_⟩; (focus (first | rfl | (simp [lk, argsS, args0]; done) | (simp [lk, argsS, args0]; omega)))))))
  · intro i hi
    have hli := ltSt_len (code := code) (S := S) (O := (2 : Int)) (s := s5) i
    have hrl1 := rws_length (ltSt code S (2 : Int) s5 i).1
    have hrl2 := rws_length (ltSt code S (2 : Int) s5 i).2.1
    have hki := hlk i
    by_cases hlt : (i : Int) < (3 : Int)
    · have hst : ltSt code S (2 : Int) s5 (i + 1) = ((ltSt code S (2 : Int) s5 i).1 ++ [(rowE code S (2 : Int) (ltSt code S (2 : Int) s5 i).2.2).1], (ltSt code S (2 : Int) s5 i).2.1 ++ [(rowE code S (2 : Int) (ltSt code S (2 : Int) s5 i).2.2).2.1], (rowE code S (2 : Int) (ltSt code S (2 : Int) s5 i).2.2).2.2) := rfl
      have hrx := fun x => rowSt_ok (code := code) (S := S) (O := (2 : Int)) hki x
      have hrn := fun x => rowSt_len (code := code) (S := S) (O := (2 : Int)) (s := (ltSt code S (2 : Int) s5 i).2.2) x
      have hrE : rowE code S (2 : Int) (ltSt code S (2 : Int) s5 i).2.2 = (if pickV code 3 (rowSt code S (2 : Int) (ltSt code S (2 : Int) s5 i).2.2 S.toNat).2.2 = 0 then cycL S else (rowSt code S (2 : Int) (ltSt code S (2 : Int) s5 i).2.2 S.toNat).1, (rowSt code S (2 : Int) (ltSt code S (2 : Int) s5 i).2.2 S.toNat).2.1, pickS code 3 (rowSt code S (2 : Int) (ltSt code S (2 : Int) s5 i).2.2 S.toNat).2.2) := rfl
      generalize hsi : (ltSt code S (2 : Int) s5 i).2.2 = si at *
      repeat (first | refine v_w (t := 34) ?_ | refine v_w (t := 33) ?_ | refine awp_seq ?_ | refine then_n ?_ | refine then_r ?_ | refine then_x ?_ | refine block_n ?_ | refine block_r ?_ | refine block_x ?_ | refine u_y ?_ | refine loop_r ?_ | refine loop_x ?_ | refine awp_region ?_ | refine awpL_nil ?_ | refine awpQL_nil ?_ | refine awp_block ?_ | refine awp_skip ?_ | refine awp_exit ?_ | refine awp_label ?_ | refine u_dT ?_ | refine u_d ?_ | refine u_w (t := 33) ?_ | refine u_w (t := 34) ?_ | refine u_l ?_ | refine u_o ?_ | refine u_q ?_ | refine u_lr ?_ | refine u_qr ?_ | refine u_ls ?_ | refine u_qs ?_ | refine u_t ?_ | refine u_f ?_ | refine v_s ?_ | refine v_o ?_ | refine v_on ?_ | refine v_og ?_ | refine v_q ?_ | refine v_sr ?_ | refine v_k ?_ | refine m_nil ?_)
      refine awp_perm _ rfl ?_
      refine awp_loop (fun x : Nat => (x : Int) ≤ S) (fun x => [(0, .ref 10000 0), (4, .ref 4 0), (5, .ref 5 0), (6, .d (.int .i64 ((3 : Int)))), (7, .d (.int .i64 i)), (8, .own 33), (9, .own 34), (10, .d (.int .i64 x))])
        (fun x => [(4, .box [.d (.int .i64 0), .d (.int .i64 0), .d .nils, .d .nils]), (5, .box [.d (.int .i64 S), .d (.int .i64 (2 : Int)), .own 200, .own 201]), (33, .arr 2 1 ((rowSt code S (2 : Int) si x).1.map (.int .i64))), (34, .arr 2 1 ((rowSt code S (2 : Int) si x).2.1.map (.int .i64))), (200, .rows 27 2 1 (rws (ltSt code S (2 : Int) s5 i).1) none), (201, .rows 27 2 1 (rws (ltSt code S (2 : Int) s5 i).2.1) none), (10000, srcB code (rowSt code S (2 : Int) si x).2.2)]) (fun x => S.toNat - x) 0 (by omega) ?_ (by as_aux_lemma => kernel_rfl) ?_
      · ((repeat (first | exact trivial | (refine ⟨?_, ?_⟩; (focus (first | rfl | (simp [lk, argsS, args0]; done) | (simp [lk, argsS, args0]; omega)))))))
      · intro x hx
        have hkx := hrx x
        have hnx := hrn x
        have hm1 : ((rowSt code S (2 : Int) si x).1.map (D.int .i64)).length = x := by simp [hnx.1]
        have hm2 : ((rowSt code S (2 : Int) si x).2.1.map (D.int .i64)).length = x := by simp [hnx.2]
        by_cases hxl : (x : Int) < S
        · have hsx : rowSt code S (2 : Int) si (x + 1) = ((rowSt code S (2 : Int) si x).1 ++ [pickV code S (rowSt code S (2 : Int) si x).2.2], (rowSt code S (2 : Int) si x).2.1 ++ [pickV code (2 : Int) (pickS code S (rowSt code S (2 : Int) si x).2.2)], pickS code (2 : Int) (pickS code S (rowSt code S (2 : Int) si x).2.2)) := rfl
          have q1 := hP _ _ S hkx (by omega) (by omega)
          have q2 := hP _ _ (2 : Int) (pick_ok (code := code) (n := S) hkx) (by omega) (by omega)
          generalize rowSt code S (2 : Int) si x = r at *
          repeat (first | refine awp_seq ?_ | refine then_n ?_ | refine then_r ?_ | refine then_x ?_ | refine block_n ?_ | refine block_r ?_ | refine block_x ?_ | refine u_y ?_ | refine loop_r ?_ | refine loop_x ?_ | refine awp_region ?_ | refine awpL_nil ?_ | refine awpQL_nil ?_ | refine awp_block ?_ | refine awp_skip ?_ | refine awp_exit ?_ | refine awp_label ?_ | refine u_dT ?_ | refine u_d ?_ | refine u_l ?_ | refine u_o ?_ | refine u_q ?_ | refine u_lr ?_ | refine u_qr ?_ | refine u_ls ?_ | refine u_qs ?_ | refine u_t ?_ | refine u_f ?_ | refine v_s ?_ | refine v_o ?_ | refine v_on ?_ | refine v_og ?_ | refine v_q ?_ | refine v_sr ?_ | refine v_k ?_ | refine m_nil ?_)
          refine hcl [(10000, 10000)] [(10000, 10000)] q1 ?_
          repeat (first | refine awp_seq ?_ | refine then_n ?_ | refine then_r ?_ | refine then_x ?_ | refine block_n ?_ | refine block_r ?_ | refine block_x ?_ | refine u_y ?_ | refine loop_r ?_ | refine loop_x ?_ | refine awp_region ?_ | refine awpL_nil ?_ | refine awpQL_nil ?_ | refine awp_block ?_ | refine awp_skip ?_ | refine awp_exit ?_ | refine awp_label ?_ | refine u_dT ?_ | refine u_d ?_ | refine u_l ?_ | refine u_o ?_ | refine u_q ?_ | refine u_lr ?_ | refine u_qr ?_ | refine u_ls ?_ | refine u_qs ?_ | refine u_t ?_ | refine u_f ?_ | refine v_s ?_ | refine v_o ?_ | refine v_on ?_ | refine v_og ?_ | refine v_q ?_ | refine v_sr ?_ | refine v_k ?_ | refine m_nil ?_)
          refine hcl [(10000, 10000)] [(10000, 10000)] q2 ?_
          repeat (first | refine awp_seq ?_ | refine then_n ?_ | refine then_r ?_ | refine then_x ?_ | refine block_n ?_ | refine block_r ?_ | refine block_x ?_ | refine u_y ?_ | refine loop_r ?_ | refine loop_x ?_ | refine awpL_nil ?_ | refine awpQL_nil ?_ | refine awp_block ?_ | refine awp_skip ?_ | refine awp_exit ?_ | refine awp_label ?_ | refine u_dT ?_ | refine u_d ?_ | refine u_l ?_ | refine u_o ?_ | refine u_q ?_ | refine u_lr ?_ | refine u_qr ?_ | refine u_ls ?_ | refine u_qs ?_ | refine u_t ?_ | refine u_f ?_ | refine v_s ?_ | refine v_o ?_ | refine v_on ?_ | refine v_og ?_ | refine v_q ?_ | refine v_sr ?_ | refine v_k ?_ | refine m_nil ?_)
          refine awp_perm _ rfl ?_
          repeat (first | refine awp_seq ?_ | refine then_n ?_ | refine then_r ?_ | refine then_x ?_ | refine block_n ?_ | refine block_r ?_ | refine block_x ?_ | refine u_y ?_ | refine loop_r ?_ | refine loop_x ?_ | refine awp_region ?_ | refine awpL_nil ?_ | refine awpQL_nil ?_ | refine awp_block ?_ | refine awp_skip ?_ | refine awp_exit ?_ | refine awp_label ?_ | refine u_dT ?_ | refine u_d ?_ | refine u_l ?_ | refine u_o ?_ | refine u_q ?_ | refine u_lr ?_ | refine u_qr ?_ | refine u_ls ?_ | refine u_qs ?_ | refine u_t ?_ | refine u_f ?_ | refine v_s ?_ | refine v_o ?_ | refine v_on ?_ | refine v_og ?_ | refine v_q ?_ | refine v_sr ?_ | refine v_k ?_ | refine m_nil ?_)
          refine loop_n (x + 1) (by omega) ?_ ?_ (by omega)
          · ((repeat (first | exact trivial | (refine ⟨?_, ?_⟩; (focus (first | rfl | (simp [lk, argsS, args0]; done) | (simp [lk, argsS, args0]; omega)))))))
          · rw [hsx]; simp only [List.map_append]; (as_aux_lemma => kernel_rfl)
        · have hxS : x = S.toNat := by omega
          subst hxS
          have q3 := hQ _ _ 3 hkx (by omega) (by omega)
          generalize hrr : rowSt code S (2 : Int) si S.toNat = r at *
          by_cases hb3 : pickV code 3 r.2.2 = 0
          · rw [if_pos hb3] at hrE
            rw [decide_eq_true hb3] at q3
            repeat (first | refine awp_seq ?_ | refine then_n ?_ | refine then_r ?_ | refine then_x ?_ | refine block_n ?_ | refine block_r ?_ | refine block_x ?_ | refine u_y ?_ | refine loop_r ?_ | refine loop_x ?_ | refine awp_region ?_ | refine awpL_nil ?_ | refine awpQL_nil ?_ | refine awp_block ?_ | refine awp_skip ?_ | refine awp_exit ?_ | refine awp_label ?_ | refine u_dT ?_ | refine u_d ?_ | refine u_l ?_ | refine u_o ?_ | refine u_q ?_ | refine u_lr ?_ | refine u_qr ?_ | refine u_ls ?_ | refine u_qs ?_ | refine u_t ?_ | refine u_f ?_ | refine v_s ?_ | refine v_o ?_ | refine v_on ?_ | refine v_og ?_ | refine v_q ?_ | refine v_sr ?_ | refine v_k ?_ | refine m_nil ?_)
            refine hcl [(10000, 10000)] [(10000, 10000)] q3 ?_
            repeat (first | refine awp_seq ?_ | refine then_n ?_ | refine then_r ?_ | refine then_x ?_ | refine block_n ?_ | refine block_r ?_ | refine block_x ?_ | refine u_y ?_ | refine loop_r ?_ | refine loop_x ?_ | refine awp_region ?_ | refine awpL_nil ?_ | refine awpQL_nil ?_ | refine awp_block ?_ | refine awp_skip ?_ | refine awp_exit ?_ | refine awp_label ?_ | refine u_dT ?_ | refine u_d ?_ | refine u_l ?_ | refine u_o ?_ | refine u_q ?_ | refine u_lr ?_ | refine u_qr ?_ | refine u_ls ?_ | refine u_qs ?_ | refine u_t ?_ | refine u_f ?_ | refine v_s ?_ | refine v_o ?_ | refine v_on ?_ | refine v_og ?_ | refine v_q ?_ | refine v_sr ?_ | refine v_k ?_ | refine m_nil ?_)
            refine awp_perm _ rfl ?_
            refine awp_loop (fun y : Nat => (y : Int) ≤ S) (fun y => [(0, .ref 10000 0), (4, .ref 4 0), (5, .ref 5 0), (6, .d (.int .i64 ((3 : Int)))), (7, .d (.int .i64 i)), (8, .own 33), (9, .own 34), (11, .d (.int .i64 y))])
              (fun y => [(4, .box [.d (.int .i64 0), .d (.int .i64 0), .d .nils, .d .nils]), (5, .box [.d (.int .i64 S), .d (.int .i64 (2 : Int)), .own 200, .own 201]), (33, .arr 2 1 (((cycL S).take y ++ r.1.drop y).map (.int .i64))), (34, .arr 2 1 (r.2.1.map (.int .i64))), (200, .rows 27 2 1 (rws (ltSt code S (2 : Int) s5 i).1) none), (201, .rows 27 2 1 (rws (ltSt code S (2 : Int) s5 i).2.1) none), (10000, srcB code (pickS code 3 r.2.2))]) (fun y => S.toNat - y) 0 (by omega) ?_ ?_ ?_
            · ((repeat (first | exact trivial | (refine ⟨?_, ?_⟩; (focus (first | rfl | (simp [lk, argsS, args0]; done) | (simp [lk, argsS, args0]; omega)))))))
            · simp only [List.take_zero, List.nil_append, List.drop_zero]
              (as_aux_lemma => kernel_rfl)
            · intro y hy
              have hcl2 : (cycL S).length = S.toNat := by simp [cycL]
              have hly : (((cycL S).take y ++ r.1.drop y).map (D.int .i64)).length = S.toNat := by simp [hcl2, hnx.1]; omega
              by_cases hyl : (y : Int) < S
              · have hyn : y < S.toNat := by omega
                have hset : (((cycL S).take y ++ r.1.drop y).map (D.int .i64)).set (y : Int).toNat (.int .i64 (((y : Int) + 1) % S)) = ((cycL S).take (y + 1) ++ r.1.drop (y + 1)).map (D.int .i64) := by
                  rw [Int.toNat_natCast, List.map_append, List.map_append, List.drop_eq_getElem_cons (by rw [hnx.1]; exact hyn), List.map_cons]
                  have hlt2 : (((cycL S).take y).map (D.int .i64)).length = y := by simp [hcl2]; omega
                  rw [List.set_append_right _ _ (by omega), hlt2, Nat.sub_self, List.set_cons_zero, List.take_succ_eq_append_getElem (by rw [hcl2]; exact hyn), List.map_append]
                  have hce : (cycL S)[y]'(by rw [hcl2]; exact hyn) = ((y : Int) + 1) % S := by simp [cycL]
                  simp [hce]
                repeat (first | refine awp_seq ?_ | refine then_n ?_ | refine then_r ?_ | refine then_x ?_ | refine block_n ?_ | refine block_r ?_ | refine block_x ?_ | refine u_y ?_ | refine loop_r ?_ | refine loop_x ?_ | refine awp_region ?_ | refine awpL_nil ?_ | refine awpQL_nil ?_ | refine awp_block ?_ | refine awp_skip ?_ | refine awp_exit ?_ | refine awp_label ?_ | refine u_dT ?_ | refine u_d ?_ | refine u_l ?_ | refine u_o ?_ | refine u_q ?_ | refine u_lr ?_ | refine u_qr ?_ | refine u_ls ?_ | refine u_qs ?_ | refine u_t ?_ | refine u_f ?_ | refine v_s ?_ | refine v_o ?_ | refine v_on ?_ | refine v_og ?_ | refine v_q ?_ | refine v_sr ?_ | refine v_k ?_ | refine m_nil ?_)
                refine loop_n (y + 1) (by omega) ?_ ?_ (by omega)
                · ((repeat (first | exact trivial | (refine ⟨?_, ?_⟩; (focus (first | rfl | (simp [lk, argsS, args0]; done) | (simp [lk, argsS, args0]; omega)))))))
                · rw [← hset]; (as_aux_lemma => kernel_rfl)
              · have hyS : y = S.toNat := by omega
                subst hyS
                have hfin : (cycL S).take S.toNat ++ r.1.drop S.toNat = cycL S := by
                  rw [List.take_of_length_le (by omega), List.drop_eq_nil_of_le (by omega), List.append_nil]
                rw [hfin]
                have ra : rws ((ltSt code S (2 : Int) s5 i).1 ++ [cycL S]) = rws (ltSt code S (2 : Int) s5 i).1 ++ [(cycL S).map (.int .i64)] := by simp [rws]
                have rb : rws ((ltSt code S (2 : Int) s5 i).2.1 ++ [r.2.1]) = rws (ltSt code S (2 : Int) s5 i).2.1 ++ [r.2.1.map (.int .i64)] := by simp [rws]
                repeat (first | refine awp_seq ?_ | refine then_n ?_ | refine then_r ?_ | refine then_x ?_ | refine block_n ?_ | refine block_r ?_ | refine block_x ?_ | refine u_y ?_ | refine loop_r ?_ | refine loop_x ?_ | refine awpL_nil ?_ | refine awpQL_nil ?_ | refine awp_block ?_ | refine awp_skip ?_ | refine awp_exit ?_ | refine awp_label ?_ | refine u_dT ?_ | refine u_d ?_ | refine u_l ?_ | refine u_o ?_ | refine u_q ?_ | refine u_lr ?_ | refine u_qr ?_ | refine u_ls ?_ | refine u_qs ?_ | refine u_t ?_ | refine u_f ?_ | refine v_s ?_ | refine v_o ?_ | refine v_on ?_ | refine v_og ?_ | refine v_q ?_ | refine v_sr ?_ | refine v_k ?_ | refine m_nil ?_)
                refine awp_region ?_
                repeat (first | refine awp_seq ?_ | refine then_n ?_ | refine then_r ?_ | refine then_x ?_ | refine block_n ?_ | refine block_r ?_ | refine block_x ?_ | refine u_y ?_ | refine loop_r ?_ | refine loop_x ?_ | refine awpL_nil ?_ | refine awpQL_nil ?_ | refine awp_block ?_ | refine awp_skip ?_ | refine awp_exit ?_ | refine awp_label ?_ | refine u_dT ?_ | refine u_d ?_ | refine u_l ?_ | refine u_o ?_ | refine u_q ?_ | refine u_lr ?_ | refine u_qr ?_ | refine u_ls ?_ | refine u_qs ?_ | refine u_t ?_ | refine u_f ?_ | refine v_s ?_ | refine v_o ?_ | refine v_on ?_ | refine v_og ?_ | refine v_q ?_ | refine v_sr ?_ | refine v_k ?_ | refine m_nil ?_)
                refine awp_region ?_
                repeat (first | refine awp_seq ?_ | refine then_n ?_ | refine then_r ?_ | refine then_x ?_ | refine block_n ?_ | refine block_r ?_ | refine block_x ?_ | refine u_y ?_ | refine loop_r ?_ | refine loop_x ?_ | refine awpL_nil ?_ | refine awpQL_nil ?_ | refine awp_block ?_ | refine awp_skip ?_ | refine awp_exit ?_ | refine awp_label ?_ | refine u_dT ?_ | refine u_d ?_ | refine u_l ?_ | refine u_o ?_ | refine u_q ?_ | refine u_lr ?_ | refine u_qr ?_ | refine u_ls ?_ | refine u_qs ?_ | refine u_t ?_ | refine u_f ?_ | refine v_s ?_ | refine v_o ?_ | refine v_on ?_ | refine v_og ?_ | refine v_q ?_ | refine v_sr ?_ | refine v_k ?_ | refine m_nil ?_)
                refine awp_region ?_
                repeat (first | refine awp_seq ?_ | refine then_n ?_ | refine then_r ?_ | refine then_x ?_ | refine block_n ?_ | refine block_r ?_ | refine block_x ?_ | refine u_y ?_ | refine loop_r ?_ | refine loop_x ?_ | refine awpL_nil ?_ | refine awpQL_nil ?_ | refine awp_block ?_ | refine awp_skip ?_ | refine awp_exit ?_ | refine awp_label ?_ | refine u_dT ?_ | refine u_d ?_ | refine u_l ?_ | refine u_o ?_ | refine u_q ?_ | refine u_lr ?_ | refine u_qr ?_ | refine u_ls ?_ | refine u_qs ?_ | refine u_t ?_ | refine u_f ?_ | refine v_s ?_ | refine v_o ?_ | refine v_on ?_ | refine v_og ?_ | refine v_q ?_ | refine v_sr ?_ | refine v_k ?_ | refine m_nil ?_)
                refine awp_perm _ rfl ?_
                repeat (first | refine awp_seq ?_ | refine then_n ?_ | refine then_r ?_ | refine then_x ?_ | refine block_n ?_ | refine block_r ?_ | refine block_x ?_ | refine u_y ?_ | refine loop_r ?_ | refine loop_x ?_ | refine awp_region ?_ | refine awpL_nil ?_ | refine awpQL_nil ?_ | refine awp_block ?_ | refine awp_skip ?_ | refine awp_exit ?_ | refine awp_label ?_ | refine u_dT ?_ | refine u_d ?_ | refine u_l ?_ | refine u_o ?_ | refine u_q ?_ | refine u_lr ?_ | refine u_qr ?_ | refine u_ls ?_ | refine u_qs ?_ | refine u_t ?_ | refine u_f ?_ | refine v_s ?_ | refine v_o ?_ | refine v_on ?_ | refine v_og ?_ | refine v_q ?_ | refine v_sr ?_ | refine v_k ?_ | refine m_nil ?_)
                refine loop_n (i + 1) (by omega) ?_ ?_ (by omega)
                · ((repeat (first | exact trivial | (refine ⟨?_, ?_⟩; (focus (first | rfl | (simp [lk, argsS, args0]; done) | (simp [lk, argsS, args0]; omega)))))))
                · rw [hst, hrE]; simp only []; rw [ra, rb]; (as_aux_lemma => kernel_rfl)
          · rw [if_neg hb3] at hrE
            rw [decide_eq_false hb3] at q3
            have ra : rws ((ltSt code S (2 : Int) s5 i).1 ++ [r.1]) = rws (ltSt code S (2 : Int) s5 i).1 ++ [r.1.map (.int .i64)] := by simp [rws]
            have rb : rws ((ltSt code S (2 : Int) s5 i).2.1 ++ [r.2.1]) = rws (ltSt code S (2 : Int) s5 i).2.1 ++ [r.2.1.map (.int .i64)] := by simp [rws]
            repeat (first | refine awp_seq ?_ | refine then_n ?_ | refine then_r ?_ | refine then_x ?_ | refine block_n ?_ | refine block_r ?_ | refine block_x ?_ | refine u_y ?_ | refine loop_r ?_ | refine loop_x ?_ | refine awp_region ?_ | refine awpL_nil ?_ | refine awpQL_nil ?_ | refine awp_block ?_ | refine awp_skip ?_ | refine awp_exit ?_ | refine awp_label ?_ | refine u_dT ?_ | refine u_d ?_ | refine u_l ?_ | refine u_o ?_ | refine u_q ?_ | refine u_lr ?_ | refine u_qr ?_ | refine u_ls ?_ | refine u_qs ?_ | refine u_t ?_ | refine u_f ?_ | refine v_s ?_ | refine v_o ?_ | refine v_on ?_ | refine v_og ?_ | refine v_q ?_ | refine v_sr ?_ | refine v_k ?_ | refine m_nil ?_)
            refine hcl [(10000, 10000)] [(10000, 10000)] q3 ?_
            repeat (first | refine awp_seq ?_ | refine then_n ?_ | refine then_r ?_ | refine then_x ?_ | refine block_n ?_ | refine block_r ?_ | refine block_x ?_ | refine u_y ?_ | refine loop_r ?_ | refine loop_x ?_ | refine awpL_nil ?_ | refine awpQL_nil ?_ | refine awp_block ?_ | refine awp_skip ?_ | refine awp_exit ?_ | refine awp_label ?_ | refine u_dT ?_ | refine u_d ?_ | refine u_l ?_ | refine u_o ?_ | refine u_q ?_ | refine u_lr ?_ | refine u_qr ?_ | refine u_ls ?_ | refine u_qs ?_ | refine u_t ?_ | refine u_f ?_ | refine v_s ?_ | refine v_o ?_ | refine v_on ?_ | refine v_og ?_ | refine v_q ?_ | refine v_sr ?_ | refine v_k ?_ | refine m_nil ?_)
            refine awp_region ?_
            repeat (first | refine awp_seq ?_ | refine then_n ?_ | refine then_r ?_ | refine then_x ?_ | refine block_n ?_ | refine block_r ?_ | refine block_x ?_ | refine u_y ?_ | refine loop_r ?_ | refine loop_x ?_ | refine awpL_nil ?_ | refine awpQL_nil ?_ | refine awp_block ?_ | refine awp_skip ?_ | refine awp_exit ?_ | refine awp_label ?_ | refine u_dT ?_ | refine u_d ?_ | refine u_l ?_ | refine u_o ?_ | refine u_q ?_ | refine u_lr ?_ | refine u_qr ?_ | refine u_ls ?_ | refine u_qs ?_ | refine u_t ?_ | refine u_f ?_ | refine v_s ?_ | refine v_o ?_ | refine v_on ?_ | refine v_og ?_ | refine v_q ?_ | refine v_sr ?_ | refine v_k ?_ | refine m_nil ?_)
            refine awp_region ?_
            repeat (first | refine awp_seq ?_ | refine then_n ?_ | refine then_r ?_ | refine then_x ?_ | refine block_n ?_ | refine block_r ?_ | refine block_x ?_ | refine u_y ?_ | refine loop_r ?_ | refine loop_x ?_ | refine awpL_nil ?_ | refine awpQL_nil ?_ | refine awp_block ?_ | refine awp_skip ?_ | refine awp_exit ?_ | refine awp_label ?_ | refine u_dT ?_ | refine u_d ?_ | refine u_l ?_ | refine u_o ?_ | refine u_q ?_ | refine u_lr ?_ | refine u_qr ?_ | refine u_ls ?_ | refine u_qs ?_ | refine u_t ?_ | refine u_f ?_ | refine v_s ?_ | refine v_o ?_ | refine v_on ?_ | refine v_og ?_ | refine v_q ?_ | refine v_sr ?_ | refine v_k ?_ | refine m_nil ?_)
            refine awp_perm _ rfl ?_
            repeat (first | refine awp_seq ?_ | refine then_n ?_ | refine then_r ?_ | refine then_x ?_ | refine block_n ?_ | refine block_r ?_ | refine block_x ?_ | refine u_y ?_ | refine loop_r ?_ | refine loop_x ?_ | refine awp_region ?_ | refine awpL_nil ?_ | refine awpQL_nil ?_ | refine awp_block ?_ | refine awp_skip ?_ | refine awp_exit ?_ | refine awp_label ?_ | refine u_dT ?_ | refine u_d ?_ | refine u_l ?_ | refine u_o ?_ | refine u_q ?_ | refine u_lr ?_ | refine u_qr ?_ | refine u_ls ?_ | refine u_qs ?_ | refine u_t ?_ | refine u_f ?_ | refine v_s ?_ | refine v_o ?_ | refine v_on ?_ | refine v_og ?_ | refine v_q ?_ | refine v_sr ?_ | refine v_k ?_ | refine m_nil ?_)
            refine loop_n (i + 1) (by omega) ?_ ?_ (by omega)
            · ((repeat (first | exact trivial | (refine ⟨?_, ?_⟩; (focus (first | rfl | (simp [lk, argsS, args0]; done) | (simp [lk, argsS, args0]; omega)))))))
            · rw [hst, hrE]; simp only []; rw [ra, rb]; (as_aux_lemma => kernel_rfl)
    · have hiL : i = ((3 : Int)).toNat := by omega
      subst hiL
      repeat (first | refine awp_seq ?_ | refine then_n ?_ | refine then_r ?_ | refine then_x ?_ | refine block_n ?_ | refine block_r ?_ | refine block_x ?_ | refine u_y ?_ | refine loop_r ?_ | refine loop_x ?_ | refine awp_region ?_ | refine awpL_nil ?_ | refine awpQL_nil ?_ | refine awp_block ?_ | refine awp_skip ?_ | refine awp_exit ?_ | refine awp_label ?_ | refine u_dT ?_ | refine u_d ?_ | refine u_l ?_ | refine u_o ?_ | refine u_q ?_ | refine u_lr ?_ | refine u_qr ?_ | refine u_ls ?_ | refine u_qs ?_ | refine u_t ?_ | refine u_f ?_ | refine v_s ?_ | refine v_o ?_ | refine v_on ?_ | refine v_og ?_ | refine v_q ?_ | refine v_sr ?_ | refine v_k ?_ | refine m_nil ?_)
      (refine awp_ret ?_; (repeat (first | refine then_r ?_ | refine block_r ?_ | refine loop_r ?_)); refine u_rH [(10000, 10000), (200, 30000), (201, 30001)] ?_ ?_)
      · rfl
      · rfl

theorem l06Draw_00 {code : List Int} {most : Int} {s : Src} {k : Nat} (hb : BytesOk code) (hm : 1 ≤ most ∧ most ≤ 9) (h : SOk s k) (hk : k ≤ 999999000) (h6 : pickV code 6 (pickS code most s) ≠ 0) (h8 : pickV code 8 (pickS code 2 (pickS code 6 (pickS code most s))) ≠ 0) :
    HC Tryz.prog 53 [.ref 10000 0, .d (.int .i64 most)] [(10000, srcB code s)] (.agg [.d (.int .i64 (drS code most s)), .d (.int .i64 (drO code (pickS code most s))), .own 30000, .own 30001])
      [(10000, srcB code (drM code most s).2.2), (30000, .rows 27 2 1 (rws (drM code most s).1) none), (30001, .rows 27 2 1 (rws (drM code most s).2.1) none)] := by
  have hS := drS_range (s := s) hb hm
  have hO := drO_range (s := pickS code most s) hb
  have hL := drL_range (s := drs3 code (pickS code most s)) hb
  have hP : ∀ (s : Src) (k : Nat) (n : Int), SOk s k → k ≤ 999999990 → n ≤ 1000 → HC Tryz.prog 58 [.ref 10000 0, .d (.int .i64 n)] [(10000, srcB code s)] (.d (.int .i64 (pickV code n s))) [(10000, srcB code (pickS code n s))] := fun s k n a b c => spec_pick hb a b (by omega)
  have hQ : ∀ (s : Src) (k : Nat) (n : Int), SOk s k → k ≤ 999999990 → n ≤ 1000 → HC Tryz.prog 51 [.ref 10000 0, .d (.int .i64 n)] [(10000, srcB code s)] (.d (.bool (decide (pickV code n s = 0)))) [(10000, srcB code (pickS code n s))] := fun s k n a b c => spec_one hb a b (by omega)
  have hA : ∀ (s : Src) (k : Nat), SOk s k → k ≤ 999999990 → HC Tryz.prog 107 [.ref 10000 0, .d (.lst [.int .i64 1, .int .i64 3])] [(10000, srcB code s)] (.d (.int .i64 ([1, 3].getD (pickV code 2 s).toNat 0))) [(10000, srcB code (pickS code 2 s))] := fun s k a b => spec_among (l := [1, 3]) hb a b (by simp) (by simp)
  have k1 := pick_ok (code := code) (n := most) h
  have hr0 := pick_range (s := s) (n := most) hb hm.1
  unfold drM
  have hSe : drS code most s = 1 + pickV code most s := rfl
  rw [hSe] at hS ⊢
  generalize hs1 : pickS code most s = s1 at *
  generalize hv1 : pickV code most s = v1 at *
  have hc1 := hP s k most h (by omega) (by omega)
  rw [hs1, hv1] at hc1
  generalize hSS : 1 + v1 = S at *
  have hOe : drO code s1 = if pickV code 6 s1 = 0 then [1, 3].getD (pickV code 2 (pickS code 6 s1)).toNat 0 else 2 := rfl
  have hs3 : drs3 code s1 = if pickV code 6 s1 = 0 then pickS code 2 (pickS code 6 s1) else pickS code 6 s1 := rfl
  rw [if_neg h6] at hOe hs3
  have hc2 := hQ _ _ 6 k1 (by omega) (by omega)
  rw [decide_eq_false h6] at hc2
  have k2 := pick_ok (code := code) (n := 6) k1
  have k3 := k2
  rw [hOe] at hO
  rw [hs3] at hL
  rw [hOe, hs3]
  have hLe : drL code (pickS code 6 s1) = if pickV code 8 (pickS code 2 (pickS code 6 s1)) = 0 then 3 else 1 + pickV code 2 (pickS code 6 s1) := rfl
  have hs5 : drs5 code (pickS code 6 s1) = pickS code 8 (pickS code 2 (pickS code 6 s1)) := rfl
  have k4 := pick_ok (code := code) (n := 2) k3
  have k5 := pick_ok (code := code) (n := 8) k4
  have hr2 := pick_range (s := (pickS code 6 s1)) (n := 2) hb (by omega)
  have hc4 := hP _ _ 2 k3 (by omega) (by omega)
  have hc5 := hQ _ _ 8 k4 (by omega) (by omega)
  generalize hS4 : pickS code 2 (pickS code 6 s1) = s4 at *
  generalize hv2 : pickV code 2 (pickS code 6 s1) = v2 at *
  generalize hs5e : pickS code 8 s4 = s5 at *
  rw [hs5]
  have hlk := fun i => ltSt_ok (code := code) (S := S) (O := (2 : Int)) k5 ⟨hS.1, by omega⟩ i
  rw [if_neg h8] at hLe
  rw [hLe] at hL ⊢
  rw [decide_eq_false h8] at hc5
  unfold srcB at hc1 hc2 hc4 hc5 ⊢
  unfold srcB at hP hQ
  refine hc_intro tabIs _ Tryz.func53 rfl rfl Tryz.ntmps53 rfl rfl rfl ?_ fun w0 ok0 XM XA anc he0 hX0 => ?_
  · exact likeIn_cons rfl rfl likeIn_nil
  repeat (first | refine awp_seq ?_ | refine then_n ?_ | refine then_r ?_ | refine then_x ?_ | refine block_n ?_ | refine block_r ?_ | refine block_x ?_ | refine u_y ?_ | refine loop_r ?_ | refine loop_x ?_ | refine awp_region ?_ | refine awpL_nil ?_ | refine awpQL_nil ?_ | refine awp_block ?_ | refine awp_skip ?_ | refine awp_exit ?_ | refine awp_label ?_ | refine u_dT ?_ | refine u_d ?_ | refine u_l ?_ | refine u_o ?_ | refine u_q ?_ | refine u_lr ?_ | refine u_qr ?_ | refine u_ls ?_ | refine u_qs ?_ | refine u_t ?_ | refine u_f ?_ | refine v_s ?_ | refine v_o ?_ | refine v_on ?_ | refine v_og ?_ | refine v_q ?_ | refine v_sr ?_ | refine v_k ?_ | refine m_nil ?_)
  refine hcl [(10000, 10000)] [(10000, 10000)] hc1 ?_
  repeat (first | refine awp_seq ?_ | refine then_n ?_ | refine then_r ?_ | refine then_x ?_ | refine block_n ?_ | refine block_r ?_ | refine block_x ?_ | refine u_y ?_ | refine loop_r ?_ | refine loop_x ?_ | refine awp_region ?_ | refine awpL_nil ?_ | refine awpQL_nil ?_ | refine awp_block ?_ | refine awp_skip ?_ | refine awp_exit ?_ | refine awp_label ?_ | refine u_dT ?_ | refine u_d ?_ | refine u_l ?_ | refine u_o ?_ | refine u_q ?_ | refine u_lr ?_ | refine u_qr ?_ | refine u_ls ?_ | refine u_qs ?_ | refine u_t ?_ | refine u_f ?_ | refine v_s ?_ | refine v_o ?_ | refine v_on ?_ | refine v_og ?_ | refine v_q ?_ | refine v_sr ?_ | refine v_k ?_ | refine m_nil ?_)
  rw [hSS]
  refine hcl [(10000, 10000)] [(10000, 10000)] hc2 ?_
  repeat (first | refine awp_seq ?_ | refine then_n ?_ | refine then_r ?_ | refine then_x ?_ | refine block_n ?_ | refine block_r ?_ | refine block_x ?_ | refine u_y ?_ | refine loop_r ?_ | refine loop_x ?_ | refine awp_region ?_ | refine awpL_nil ?_ | refine awpQL_nil ?_ | refine awp_block ?_ | refine awp_skip ?_ | refine awp_exit ?_ | refine awp_label ?_ | refine u_dT ?_ | refine u_d ?_ | refine u_l ?_ | refine u_o ?_ | refine u_q ?_ | refine u_lr ?_ | refine u_qr ?_ | refine u_ls ?_ | refine u_qs ?_ | refine u_t ?_ | refine u_f ?_ | refine v_s ?_ | refine v_o ?_ | refine v_on ?_ | refine v_og ?_ | refine v_q ?_ | refine v_sr ?_ | refine v_k ?_ | refine m_nil ?_)
  refine hcl [(10000, 10000)] [(10000, 10000)] hc4 ?_
  repeat (first | refine awp_seq ?_ | refine then_n ?_ | refine then_r ?_ | refine then_x ?_ | refine block_n ?_ | refine block_r ?_ | refine block_x ?_ | refine u_y ?_ | refine loop_r ?_ | refine loop_x ?_ | refine awp_region ?_ | refine awpL_nil ?_ | refine awpQL_nil ?_ | refine awp_block ?_ | refine awp_skip ?_ | refine awp_exit ?_ | refine awp_label ?_ | refine u_dT ?_ | refine u_d ?_ | refine u_l ?_ | refine u_o ?_ | refine u_q ?_ | refine u_lr ?_ | refine u_qr ?_ | refine u_ls ?_ | refine u_qs ?_ | refine u_t ?_ | refine u_f ?_ | refine v_s ?_ | refine v_o ?_ | refine v_on ?_ | refine v_og ?_ | refine v_q ?_ | refine v_sr ?_ | refine v_k ?_ | refine m_nil ?_)
  refine hcl [(10000, 10000)] [(10000, 10000)] hc5 ?_
  repeat (first | refine awp_seq ?_ | refine then_n ?_ | refine then_r ?_ | refine then_x ?_ | refine block_n ?_ | refine block_r ?_ | refine block_x ?_ | refine u_y ?_ | refine loop_r ?_ | refine loop_x ?_ | refine awp_region ?_ | refine awpL_nil ?_ | refine awpQL_nil ?_ | refine awp_block ?_ | refine awp_skip ?_ | refine awp_exit ?_ | refine awp_label ?_ | refine u_dT ?_ | refine u_d ?_ | refine u_l ?_ | refine u_o ?_ | refine u_q ?_ | refine u_lr ?_ | refine u_qr ?_ | refine u_ls ?_ | refine u_qs ?_ | refine u_t ?_ | refine u_f ?_ | refine v_s ?_ | refine v_o ?_ | refine v_on ?_ | refine v_og ?_ | refine v_q ?_ | refine v_sr ?_ | refine v_k ?_ | refine m_nil ?_)
  refine awp_nilCell 5 2 200 27 1 (by exact rfl) (by exact rfl) rfl rfl rfl ?_
  refine awp_toRows 200 2 1 rfl rfl rfl rfl ?_
  refine awp_nilCell 5 3 201 27 1 (by exact rfl) (by exact rfl) rfl rfl rfl ?_
  refine awp_toRows 201 2 1 rfl rfl rfl rfl ?_
  refine awp_perm _ rfl ?_
  refine awp_loop (fun i : Nat => (i : Int) ≤ 1 + v2) (fun i => [(0, .ref 10000 0), (4, .ref 4 0), (5, .ref 5 0), (6, .d (.int .i64 (1 + v2))), (7, .d (.int .i64 i))]) (fun i => [(4, .box [.d (.int .i64 0), .d (.int .i64 0), .d .nils, .d .nils]), (5, .box [.d (.int .i64 S), .d (.int .i64 (2 : Int)), .own 200, .own 201]), (200, .rows 27 2 1 (rws (ltSt code S (2 : Int) s5 i).1) none), (201, .rows 27 2 1 (rws (ltSt code S (2 : Int) s5 i).2.1) none), (10000, srcB code (ltSt code S (2 : Int) s5 i).2.2)]) (fun i => (1 + v2).toNat - i) 0 (by omega) ?_ (by as_aux_lemma => kernel_rfl) ?_
  · ((repeat (first | exact trivial | (refine ⟨?_, ?_⟩; (focus (first | rfl | (simp [lk, argsS, args0]; done) | (simp [lk, argsS, args0]; omega)))))))
  · intro i hi
    have hli := ltSt_len (code := code) (S := S) (O := (2 : Int)) (s := s5) i
    have hrl1 := rws_length (ltSt code S (2 : Int) s5 i).1
    have hrl2 := rws_length (ltSt code S (2 : Int) s5 i).2.1
    have hki := hlk i
    by_cases hlt : (i : Int) < 1 + v2
    · have hst : ltSt code S (2 : Int) s5 (i + 1) = ((ltSt code S (2 : Int) s5 i).1 ++ [(rowE code S (2 : Int) (ltSt code S (2 : Int) s5 i).2.2).1], (ltSt code S (2 : Int) s5 i).2.1 ++ [(rowE code S (2 : Int) (ltSt code S (2 : Int) s5 i).2.2).2.1], (rowE code S (2 : Int) (ltSt code S (2 : Int) s5 i).2.2).2.2) := rfl
      have hrx := fun x => rowSt_ok (code := code) (S := S) (O := (2 : Int)) hki x
      have hrn := fun x => rowSt_len (code := code) (S := S) (O := (2 : Int)) (s := (ltSt code S (2 : Int) s5 i).2.2) x
      have hrE : rowE code S (2 : Int) (ltSt code S (2 : Int) s5 i).2.2 = (if pickV code 3 (rowSt code S (2 : Int) (ltSt code S (2 : Int) s5 i).2.2 S.toNat).2.2 = 0 then cycL S else (rowSt code S (2 : Int) (ltSt code S (2 : Int) s5 i).2.2 S.toNat).1, (rowSt code S (2 : Int) (ltSt code S (2 : Int) s5 i).2.2 S.toNat).2.1, pickS code 3 (rowSt code S (2 : Int) (ltSt code S (2 : Int) s5 i).2.2 S.toNat).2.2) := rfl
      generalize hsi : (ltSt code S (2 : Int) s5 i).2.2 = si at *
      repeat (first | refine v_w (t := 34) ?_ | refine v_w (t := 33) ?_ | refine awp_seq ?_ | refine then_n ?_ | refine then_r ?_ | refine then_x ?_ | refine block_n ?_ | refine block_r ?_ | refine block_x ?_ | refine u_y ?_ | refine loop_r ?_ | refine loop_x ?_ | refine awp_region ?_ | refine awpL_nil ?_ | refine awpQL_nil ?_ | refine awp_block ?_ | refine awp_skip ?_ | refine awp_exit ?_ | refine awp_label ?_ | refine u_dT ?_ | refine u_d ?_ | refine u_w (t := 33) ?_ | refine u_w (t := 34) ?_ | refine u_l ?_ | refine u_o ?_ | refine u_q ?_ | refine u_lr ?_ | refine u_qr ?_ | refine u_ls ?_ | refine u_qs ?_ | refine u_t ?_ | refine u_f ?_ | refine v_s ?_ | refine v_o ?_ | refine v_on ?_ | refine v_og ?_ | refine v_q ?_ | refine v_sr ?_ | refine v_k ?_ | refine m_nil ?_)
      refine awp_perm _ rfl ?_
      refine awp_loop (fun x : Nat => (x : Int) ≤ S) (fun x => [(0, .ref 10000 0), (4, .ref 4 0), (5, .ref 5 0), (6, .d (.int .i64 (1 + v2))), (7, .d (.int .i64 i)), (8, .own 33), (9, .own 34), (10, .d (.int .i64 x))])
        (fun x => [(4, .box [.d (.int .i64 0), .d (.int .i64 0), .d .nils, .d .nils]), (5, .box [.d (.int .i64 S), .d (.int .i64 (2 : Int)), .own 200, .own 201]), (33, .arr 2 1 ((rowSt code S (2 : Int) si x).1.map (.int .i64))), (34, .arr 2 1 ((rowSt code S (2 : Int) si x).2.1.map (.int .i64))), (200, .rows 27 2 1 (rws (ltSt code S (2 : Int) s5 i).1) none), (201, .rows 27 2 1 (rws (ltSt code S (2 : Int) s5 i).2.1) none), (10000, srcB code (rowSt code S (2 : Int) si x).2.2)]) (fun x => S.toNat - x) 0 (by omega) ?_ (by as_aux_lemma => kernel_rfl) ?_
      · ((repeat (first | exact trivial | (refine ⟨?_, ?_⟩; (focus (first | rfl | (simp [lk, argsS, args0]; done) | (simp [lk, argsS, args0]; omega)))))))
      · intro x hx
        have hkx := hrx x
        have hnx := hrn x
        have hm1 : ((rowSt code S (2 : Int) si x).1.map (D.int .i64)).length = x := by simp [hnx.1]
        have hm2 : ((rowSt code S (2 : Int) si x).2.1.map (D.int .i64)).length = x := by simp [hnx.2]
        by_cases hxl : (x : Int) < S
        · have hsx : rowSt code S (2 : Int) si (x + 1) = ((rowSt code S (2 : Int) si x).1 ++ [pickV code S (rowSt code S (2 : Int) si x).2.2], (rowSt code S (2 : Int) si x).2.1 ++ [pickV code (2 : Int) (pickS code S (rowSt code S (2 : Int) si x).2.2)], pickS code (2 : Int) (pickS code S (rowSt code S (2 : Int) si x).2.2)) := rfl
          have q1 := hP _ _ S hkx (by omega) (by omega)
          have q2 := hP _ _ (2 : Int) (pick_ok (code := code) (n := S) hkx) (by omega) (by omega)
          generalize rowSt code S (2 : Int) si x = r at *
          repeat (first | refine awp_seq ?_ | refine then_n ?_ | refine then_r ?_ | refine then_x ?_ | refine block_n ?_ | refine block_r ?_ | refine block_x ?_ | refine u_y ?_ | refine loop_r ?_ | refine loop_x ?_ | refine awp_region ?_ | refine awpL_nil ?_ | refine awpQL_nil ?_ | refine awp_block ?_ | refine awp_skip ?_ | refine awp_exit ?_ | refine awp_label ?_ | refine u_dT ?_ | refine u_d ?_ | refine u_l ?_ | refine u_o ?_ | refine u_q ?_ | refine u_lr ?_ | refine u_qr ?_ | refine u_ls ?_ | refine u_qs ?_ | refine u_t ?_ | refine u_f ?_ | refine v_s ?_ | refine v_o ?_ | refine v_on ?_ | refine v_og ?_ | refine v_q ?_ | refine v_sr ?_ | refine v_k ?_ | refine m_nil ?_)
          refine hcl [(10000, 10000)] [(10000, 10000)] q1 ?_
          repeat (first | refine awp_seq ?_ | refine then_n ?_ | refine then_r ?_ | refine then_x ?_ | refine block_n ?_ | refine block_r ?_ | refine block_x ?_ | refine u_y ?_ | refine loop_r ?_ | refine loop_x ?_ | refine awp_region ?_ | refine awpL_nil ?_ | refine awpQL_nil ?_ | refine awp_block ?_ | refine awp_skip ?_ | refine awp_exit ?_ | refine awp_label ?_ | refine u_dT ?_ | refine u_d ?_ | refine u_l ?_ | refine u_o ?_ | refine u_q ?_ | refine u_lr ?_ | refine u_qr ?_ | refine u_ls ?_ | refine u_qs ?_ | refine u_t ?_ | refine u_f ?_ | refine v_s ?_ | refine v_o ?_ | refine v_on ?_ | refine v_og ?_ | refine v_q ?_ | refine v_sr ?_ | refine v_k ?_ | refine m_nil ?_)
          refine hcl [(10000, 10000)] [(10000, 10000)] q2 ?_
          repeat (first | refine awp_seq ?_ | refine then_n ?_ | refine then_r ?_ | refine then_x ?_ | refine block_n ?_ | refine block_r ?_ | refine block_x ?_ | refine u_y ?_ | refine loop_r ?_ | refine loop_x ?_ | refine awpL_nil ?_ | refine awpQL_nil ?_ | refine awp_block ?_ | refine awp_skip ?_ | refine awp_exit ?_ | refine awp_label ?_ | refine u_dT ?_ | refine u_d ?_ | refine u_l ?_ | refine u_o ?_ | refine u_q ?_ | refine u_lr ?_ | refine u_qr ?_ | refine u_ls ?_ | refine u_qs ?_ | refine u_t ?_ | refine u_f ?_ | refine v_s ?_ | refine v_o ?_ | refine v_on ?_ | refine v_og ?_ | refine v_q ?_ | refine v_sr ?_ | refine v_k ?_ | refine m_nil ?_)
          refine awp_perm _ rfl ?_
          repeat (first | refine awp_seq ?_ | refine then_n ?_ | refine then_r ?_ | refine then_x ?_ | refine block_n ?_ | refine block_r ?_ | refine block_x ?_ | refine u_y ?_ | refine loop_r ?_ | refine loop_x ?_ | refine awp_region ?_ | refine awpL_nil ?_ | refine awpQL_nil ?_ | refine awp_block ?_ | refine awp_skip ?_ | refine awp_exit ?_ | refine awp_label ?_ | refine u_dT ?_ | refine u_d ?_ | refine u_l ?_ | refine u_o ?_ | refine u_q ?_ | refine u_lr ?_ | refine u_qr ?_ | refine u_ls ?_ | refine u_qs ?_ | refine u_t ?_ | refine u_f ?_ | refine v_s ?_ | refine v_o ?_ | refine v_on ?_ | refine v_og ?_ | refine v_q ?_ | refine v_sr ?_ | refine v_k ?_ | refine m_nil ?_)
          refine loop_n (x + 1) (by omega) ?_ ?_ (by omega)
          · ((repeat (first | exact trivial | (refine ⟨?_, ?_⟩; (focus (first | rfl | (simp [lk, argsS, args0]; done) | (simp [lk, argsS, args0]; omega)))))))
          · rw [hsx]; simp only [List.map_append]; (as_aux_lemma => kernel_rfl)
        · have hxS : x = S.toNat := by omega
          subst hxS
          have q3 := hQ _ _ 3 hkx (by omega) (by omega)
          generalize hrr : rowSt code S (2 : Int) si S.toNat = r at *
          by_cases hb3 : pickV code 3 r.2.2 = 0
          · rw [if_pos hb3] at hrE
            rw [decide_eq_true hb3] at q3
            repeat (first | refine awp_seq ?_ | refine then_n ?_ | refine then_r ?_ | refine then_x ?_ | refine block_n ?_ | refine block_r ?_ | refine block_x ?_ | refine u_y ?_ | refine loop_r ?_ | refine loop_x ?_ | refine awp_region ?_ | refine awpL_nil ?_ | refine awpQL_nil ?_ | refine awp_block ?_ | refine awp_skip ?_ | refine awp_exit ?_ | refine awp_label ?_ | refine u_dT ?_ | refine u_d ?_ | refine u_l ?_ | refine u_o ?_ | refine u_q ?_ | refine u_lr ?_ | refine u_qr ?_ | refine u_ls ?_ | refine u_qs ?_ | refine u_t ?_ | refine u_f ?_ | refine v_s ?_ | refine v_o ?_ | refine v_on ?_ | refine v_og ?_ | refine v_q ?_ | refine v_sr ?_ | refine v_k ?_ | refine m_nil ?_)
            refine hcl [(10000, 10000)] [(10000, 10000)] q3 ?_
            repeat (first | refine awp_seq ?_ | refine then_n ?_ | refine then_r ?_ | refine then_x ?_ | refine block_n ?_ | refine block_r ?_ | refine block_x ?_ | refine u_y ?_ | refine loop_r ?_ | refine loop_x ?_ | refine awp_region ?_ | refine awpL_nil ?_ | refine awpQL_nil ?_ | refine awp_block ?_ | refine awp_skip ?_ | refine awp_exit ?_ | refine awp_label ?_ | refine u_dT ?_ | refine u_d ?_ | refine u_l ?_ | refine u_o ?_ | refine u_q ?_ | refine u_lr ?_ | refine u_qr ?_ | refine u_ls ?_ | refine u_qs ?_ | refine u_t ?_ | refine u_f ?_ | refine v_s ?_ | refine v_o ?_ | refine v_on ?_ | refine v_og ?_ | refine v_q ?_ | refine v_sr ?_ | refine v_k ?_ | refine m_nil ?_)
            refine awp_perm _ rfl ?_
            refine awp_loop (fun y : Nat => (y : Int) ≤ S) (fun y => [(0, .ref 10000 0), (4, .ref 4 0), (5, .ref 5 0), (6, .d (.int .i64 (1 + v2))), (7, .d (.int .i64 i)), (8, .own 33), (9, .own 34), (11, .d (.int .i64 y))])
              (fun y => [(4, .box [.d (.int .i64 0), .d (.int .i64 0), .d .nils, .d .nils]), (5, .box [.d (.int .i64 S), .d (.int .i64 (2 : Int)), .own 200, .own 201]), (33, .arr 2 1 (((cycL S).take y ++ r.1.drop y).map (.int .i64))), (34, .arr 2 1 (r.2.1.map (.int .i64))), (200, .rows 27 2 1 (rws (ltSt code S (2 : Int) s5 i).1) none), (201, .rows 27 2 1 (rws (ltSt code S (2 : Int) s5 i).2.1) none), (10000, srcB code (pickS code 3 r.2.2))]) (fun y => S.toNat - y) 0 (by omega) ?_ ?_ ?_
            · ((repeat (first | exact trivial | (refine ⟨?_, ?_⟩; (focus (first | rfl | (simp [lk, argsS, args0]; done) | (simp [lk, argsS, args0]; omega)))))))
            · simp only [List.take_zero, List.nil_append, List.drop_zero]
              (as_aux_lemma => kernel_rfl)
            · intro y hy
              have hcl2 : (cycL S).length = S.toNat := by simp [cycL]
              have hly : (((cycL S).take y ++ r.1.drop y).map (D.int .i64)).length = S.toNat := by simp [hcl2, hnx.1]; omega
              by_cases hyl : (y : Int) < S
              · have hyn : y < S.toNat := by omega
                have hset : (((cycL S).take y ++ r.1.drop y).map (D.int .i64)).set (y : Int).toNat (.int .i64 (((y : Int) + 1) % S)) = ((cycL S).take (y + 1) ++ r.1.drop (y + 1)).map (D.int .i64) := by
                  rw [Int.toNat_natCast, List.map_append, List.map_append, List.drop_eq_getElem_cons (by rw [hnx.1]; exact hyn), List.map_cons]
                  have hlt2 : (((cycL S).take y).map (D.int .i64)).length = y := by simp [hcl2]; omega
                  rw [List.set_append_right _ _ (by omega), hlt2, Nat.sub_self, List.set_cons_zero, List.take_succ_eq_append_getElem (by rw [hcl2]; exact hyn), List.map_append]
                  have hce : (cycL S)[y]'(by rw [hcl2]; exact hyn) = ((y : Int) + 1) % S := by simp [cycL]
                  simp [hce]
                repeat (first | refine awp_seq ?_ | refine then_n ?_ | refine then_r ?_ | refine then_x ?_ | refine block_n ?_ | refine block_r ?_ | refine block_x ?_ | refine u_y ?_ | refine loop_r ?_ | refine loop_x ?_ | refine awp_region ?_ | refine awpL_nil ?_ | refine awpQL_nil ?_ | refine awp_block ?_ | refine awp_skip ?_ | refine awp_exit ?_ | refine awp_label ?_ | refine u_dT ?_ | refine u_d ?_ | refine u_l ?_ | refine u_o ?_ | refine u_q ?_ | refine u_lr ?_ | refine u_qr ?_ | refine u_ls ?_ | refine u_qs ?_ | refine u_t ?_ | refine u_f ?_ | refine v_s ?_ | refine v_o ?_ | refine v_on ?_ | refine v_og ?_ | refine v_q ?_ | refine v_sr ?_ | refine v_k ?_ | refine m_nil ?_)
                refine loop_n (y + 1) (by omega) ?_ ?_ (by omega)
                · ((repeat (first | exact trivial | (refine ⟨?_, ?_⟩; (focus (first | rfl | (simp [lk, argsS, args0]; done) | (simp [lk, argsS, args0]; omega)))))))
                · rw [← hset]; (as_aux_lemma => kernel_rfl)
              · have hyS : y = S.toNat := by omega
                subst hyS
                have hfin : (cycL S).take S.toNat ++ r.1.drop S.toNat = cycL S := by
                  rw [List.take_of_length_le (by omega), List.drop_eq_nil_of_le (by omega), List.append_nil]
                rw [hfin]
                have ra : rws ((ltSt code S (2 : Int) s5 i).1 ++ [cycL S]) = rws (ltSt code S (2 : Int) s5 i).1 ++ [(cycL S).map (.int .i64)] := by simp [rws]
                have rb : rws ((ltSt code S (2 : Int) s5 i).2.1 ++ [r.2.1]) = rws (ltSt code S (2 : Int) s5 i).2.1 ++ [r.2.1.map (.int .i64)] := by simp [rws]
                repeat (first | refine awp_seq ?_ | refine then_n ?_ | refine then_r ?_ | refine then_x ?_ | refine block_n ?_ | refine block_r ?_ | refine block_x ?_ | refine u_y ?_ | refine loop_r ?_ | refine loop_x ?_ | refine awpL_nil ?_ | refine awpQL_nil ?_ | refine awp_block ?_ | refine awp_skip ?_ | refine awp_exit ?_ | refine awp_label ?_ | refine u_dT ?_ | refine u_d ?_ | refine u_l ?_ | refine u_o ?_ | refine u_q ?_ | refine u_lr ?_ | refine u_qr ?_ | refine u_ls ?_ | refine u_qs ?_ | refine u_t ?_ | refine u_f ?_ | refine v_s ?_ | refine v_o ?_ | refine v_on ?_ | refine v_og ?_ | refine v_q ?_ | refine v_sr ?_ | refine v_k ?_ | refine m_nil ?_)
                refine awp_region ?_
                repeat (first | refine awp_seq ?_ | refine then_n ?_ | refine then_r ?_ | refine then_x ?_ | refine block_n ?_ | refine block_r ?_ | refine block_x ?_ | refine u_y ?_ | refine loop_r ?_ | refine loop_x ?_ | refine awpL_nil ?_ | refine awpQL_nil ?_ | refine awp_block ?_ | refine awp_skip ?_ | refine awp_exit ?_ | refine awp_label ?_ | refine u_dT ?_ | refine u_d ?_ | refine u_l ?_ | refine u_o ?_ | refine u_q ?_ | refine u_lr ?_ | refine u_qr ?_ | refine u_ls ?_ | refine u_qs ?_ | refine u_t ?_ | refine u_f ?_ | refine v_s ?_ | refine v_o ?_ | refine v_on ?_ | refine v_og ?_ | refine v_q ?_ | refine v_sr ?_ | refine v_k ?_ | refine m_nil ?_)
                refine awp_region ?_
                repeat (first | refine awp_seq ?_ | refine then_n ?_ | refine then_r ?_ | refine then_x ?_ | refine block_n ?_ | refine block_r ?_ | refine block_x ?_ | refine u_y ?_ | refine loop_r ?_ | refine loop_x ?_ | refine awpL_nil ?_ | refine awpQL_nil ?_ | refine awp_block ?_ | refine awp_skip ?_ | refine awp_exit ?_ | refine awp_label ?_ | refine u_dT ?_ | refine u_d ?_ | refine u_l ?_ | refine u_o ?_ | refine u_q ?_ | refine u_lr ?_ | refine u_qr ?_ | refine u_ls ?_ | refine u_qs ?_ | refine u_t ?_ | refine u_f ?_ | refine v_s ?_ | refine v_o ?_ | refine v_on ?_ | refine v_og ?_ | refine v_q ?_ | refine v_sr ?_ | refine v_k ?_ | refine m_nil ?_)
                refine awp_region ?_
                repeat (first | refine awp_seq ?_ | refine then_n ?_ | refine then_r ?_ | refine then_x ?_ | refine block_n ?_ | refine block_r ?_ | refine block_x ?_ | refine u_y ?_ | refine loop_r ?_ | refine loop_x ?_ | refine awpL_nil ?_ | refine awpQL_nil ?_ | refine awp_block ?_ | refine awp_skip ?_ | refine awp_exit ?_ | refine awp_label ?_ | refine u_dT ?_ | refine u_d ?_ | refine u_l ?_ | refine u_o ?_ | refine u_q ?_ | refine u_lr ?_ | refine u_qr ?_ | refine u_ls ?_ | refine u_qs ?_ | refine u_t ?_ | refine u_f ?_ | refine v_s ?_ | refine v_o ?_ | refine v_on ?_ | refine v_og ?_ | refine v_q ?_ | refine v_sr ?_ | refine v_k ?_ | refine m_nil ?_)
                refine awp_perm _ rfl ?_
                repeat (first | refine awp_seq ?_ | refine then_n ?_ | refine then_r ?_ | refine then_x ?_ | refine block_n ?_ | refine block_r ?_ | refine block_x ?_ | refine u_y ?_ | refine loop_r ?_ | refine loop_x ?_ | refine awp_region ?_ | refine awpL_nil ?_ | refine awpQL_nil ?_ | refine awp_block ?_ | refine awp_skip ?_ | refine awp_exit ?_ | refine awp_label ?_ | refine u_dT ?_ | refine u_d ?_ | refine u_l ?_ | refine u_o ?_ | refine u_q ?_ | refine u_lr ?_ | refine u_qr ?_ | refine u_ls ?_ | refine u_qs ?_ | refine u_t ?_ | refine u_f ?_ | refine v_s ?_ | refine v_o ?_ | refine v_on ?_ | refine v_og ?_ | refine v_q ?_ | refine v_sr ?_ | refine v_k ?_ | refine m_nil ?_)
                refine loop_n (i + 1) (by omega) ?_ ?_ (by omega)
                · ((repeat (first | exact trivial | (refine ⟨?_, ?_⟩; (focus (first | rfl | (simp [lk, argsS, args0]; done) | (simp [lk, argsS, args0]; omega)))))))
                · rw [hst, hrE]; simp only []; rw [ra, rb]; (as_aux_lemma => kernel_rfl)
          · rw [if_neg hb3] at hrE
            rw [decide_eq_false hb3] at q3
            have ra : rws ((ltSt code S (2 : Int) s5 i).1 ++ [r.1]) = rws (ltSt code S (2 : Int) s5 i).1 ++ [r.1.map (.int .i64)] := by simp [rws]
            have rb : rws ((ltSt code S (2 : Int) s5 i).2.1 ++ [r.2.1]) = rws (ltSt code S (2 : Int) s5 i).2.1 ++ [r.2.1.map (.int .i64)] := by simp [rws]
            repeat (first | refine awp_seq ?_ | refine then_n ?_ | refine then_r ?_ | refine then_x ?_ | refine block_n ?_ | refine block_r ?_ | refine block_x ?_ | refine u_y ?_ | refine loop_r ?_ | refine loop_x ?_ | refine awp_region ?_ | refine awpL_nil ?_ | refine awpQL_nil ?_ | refine awp_block ?_ | refine awp_skip ?_ | refine awp_exit ?_ | refine awp_label ?_ | refine u_dT ?_ | refine u_d ?_ | refine u_l ?_ | refine u_o ?_ | refine u_q ?_ | refine u_lr ?_ | refine u_qr ?_ | refine u_ls ?_ | refine u_qs ?_ | refine u_t ?_ | refine u_f ?_ | refine v_s ?_ | refine v_o ?_ | refine v_on ?_ | refine v_og ?_ | refine v_q ?_ | refine v_sr ?_ | refine v_k ?_ | refine m_nil ?_)
            refine hcl [(10000, 10000)] [(10000, 10000)] q3 ?_
            repeat (first | refine awp_seq ?_ | refine then_n ?_ | refine then_r ?_ | refine then_x ?_ | refine block_n ?_ | refine block_r ?_ | refine block_x ?_ | refine u_y ?_ | refine loop_r ?_ | refine loop_x ?_ | refine awpL_nil ?_ | refine awpQL_nil ?_ | refine awp_block ?_ | refine awp_skip ?_ | refine awp_exit ?_ | refine awp_label ?_ | refine u_dT ?_ | refine u_d ?_ | refine u_l ?_ | refine u_o ?_ | refine u_q ?_ | refine u_lr ?_ | refine u_qr ?_ | refine u_ls ?_ | refine u_qs ?_ | refine u_t ?_ | refine u_f ?_ | refine v_s ?_ | refine v_o ?_ | refine v_on ?_ | refine v_og ?_ | refine v_q ?_ | refine v_sr ?_ | refine v_k ?_ | refine m_nil ?_)
            refine awp_region ?_
            repeat (first | refine awp_seq ?_ | refine then_n ?_ | refine then_r ?_ | refine then_x ?_ | refine block_n ?_ | refine block_r ?_ | refine block_x ?_ | refine u_y ?_ | refine loop_r ?_ | refine loop_x ?_ | refine awpL_nil ?_ | refine awpQL_nil ?_ | refine awp_block ?_ | refine awp_skip ?_ | refine awp_exit ?_ | refine awp_label ?_ | refine u_dT ?_ | refine u_d ?_ | refine u_l ?_ | refine u_o ?_ | refine u_q ?_ | refine u_lr ?_ | refine u_qr ?_ | refine u_ls ?_ | refine u_qs ?_ | refine u_t ?_ | refine u_f ?_ | refine v_s ?_ | refine v_o ?_ | refine v_on ?_ | refine v_og ?_ | refine v_q ?_ | refine v_sr ?_ | refine v_k ?_ | refine m_nil ?_)
            refine awp_region ?_
            repeat (first | refine awp_seq ?_ | refine then_n ?_ | refine then_r ?_ | refine then_x ?_ | refine block_n ?_ | refine block_r ?_ | refine block_x ?_ | refine u_y ?_ | refine loop_r ?_ | refine loop_x ?_ | refine awpL_nil ?_ | refine awpQL_nil ?_ | refine awp_block ?_ | refine awp_skip ?_ | refine awp_exit ?_ | refine awp_label ?_ | refine u_dT ?_ | refine u_d ?_ | refine u_l ?_ | refine u_o ?_ | refine u_q ?_ | refine u_lr ?_ | refine u_qr ?_ | refine u_ls ?_ | refine u_qs ?_ | refine u_t ?_ | refine u_f ?_ | refine v_s ?_ | refine v_o ?_ | refine v_on ?_ | refine v_og ?_ | refine v_q ?_ | refine v_sr ?_ | refine v_k ?_ | refine m_nil ?_)
            refine awp_perm _ rfl ?_
            repeat (first | refine awp_seq ?_ | refine then_n ?_ | refine then_r ?_ | refine then_x ?_ | refine block_n ?_ | refine block_r ?_ | refine block_x ?_ | refine u_y ?_ | refine loop_r ?_ | refine loop_x ?_ | refine awp_region ?_ | refine awpL_nil ?_ | refine awpQL_nil ?_ | refine awp_block ?_ | refine awp_skip ?_ | refine awp_exit ?_ | refine awp_label ?_ | refine u_dT ?_ | refine u_d ?_ | refine u_l ?_ | refine u_o ?_ | refine u_q ?_ | refine u_lr ?_ | refine u_qr ?_ | refine u_ls ?_ | refine u_qs ?_ | refine u_t ?_ | refine u_f ?_ | refine v_s ?_ | refine v_o ?_ | refine v_on ?_ | refine v_og ?_ | refine v_q ?_ | refine v_sr ?_ | refine v_k ?_ | refine m_nil ?_)
            refine loop_n (i + 1) (by omega) ?_ ?_ (by omega)
            · ((repeat (first | exact trivial | (refine ⟨?_, ?_⟩; (focus (first | rfl | (simp [lk, argsS, args0]; done) | (simp [lk, argsS, args0]; omega)))))))
            · rw [hst, hrE]; simp only []; rw [ra, rb]; (as_aux_lemma => kernel_rfl)
    · have hiL : i = (1 + v2).toNat := by omega
      subst hiL
      repeat (first | refine awp_seq ?_ | refine then_n ?_ | refine then_r ?_ | refine then_x ?_ | refine block_n ?_ | refine block_r ?_ | refine block_x ?_ | refine u_y ?_ | refine loop_r ?_ | refine loop_x ?_ | refine awp_region ?_ | refine awpL_nil ?_ | refine awpQL_nil ?_ | refine awp_block ?_ | refine awp_skip ?_ | refine awp_exit ?_ | refine awp_label ?_ | refine u_dT ?_ | refine u_d ?_ | refine u_l ?_ | refine u_o ?_ | refine u_q ?_ | refine u_lr ?_ | refine u_qr ?_ | refine u_ls ?_ | refine u_qs ?_ | refine u_t ?_ | refine u_f ?_ | refine v_s ?_ | refine v_o ?_ | refine v_on ?_ | refine v_og ?_ | refine v_q ?_ | refine v_sr ?_ | refine v_k ?_ | refine m_nil ?_)
      (refine awp_ret ?_; (repeat (first | refine then_r ?_ | refine block_r ?_ | refine loop_r ?_)); refine u_rH [(10000, 10000), (200, 30000), (201, 30001)] ?_ ?_)
      · rfl
      · rfl

end Go.Proofs.YtffmlijngfhhaaaGreatDoor
