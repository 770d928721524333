/- What is told of a line whose wire is a row of one's own. Printed by genot.py. No condition. -/
import Derived.Test.YtffmlijngfhhaaaGreatDoorOj
namespace Go.Proofs.YtffmlijngfhhaaaGreatDoor
open Go
attribute [local irreducible] awp awpL awpQL awpQ awpM pWalk Qt AC thenQ blockQ loopQ OpTo
set_option linter.unusedVariables false
set_option linter.unusedSimpArgs false
set_option maxHeartbeats 2000000
attribute [local irreducible] HC

theorem spec_l08ToldR {s : Int} {nx : List (List Int)} {lp : List Int} {n : Ln} (v : LV s nx lp) (h : DskOk s nx n.d) :
    HC Tryz.prog 92 [.d (.ptr (ltD s nx lp)), .ref 10000 3] [(10000, lnB (.own 20000) n), (20000, wrC n.wire)] (.d (ints (toldD nx n.d))) [(10000, lnB (.own 20000) n), (20000, wrC n.wire)] := by
  have hs := v.s1
  have hbl := h.bel_len (by omega)
  have hol := h.len
  have hsu := h.sure
  have e1 := spec_l00Own (ns := n.d.bel) (by omega)
  have hodl : (n.d.ord.map (D.int .i64)).length = n.d.ord.length := by simp
  have hel := elsOk_ints n.d.ord
  have key : ∀ m : Nat, n.d.sure.toNat + m ≤ n.d.ord.length → _ := fun m hm => tN_ok v.nx ((n.d.ord.drop n.d.sure.toNat).take m) n.d.bel n.d.bel (fun l hl => h.ord l (List.mem_of_mem_drop (List.mem_of_mem_take hl))) h.bel h.ris h.bel h.ris
  unfold toldD
  rw [tN_toldF]
  unfold ltD lnB wrC
  refine hc_intro tabIs _ Tryz.func92 rfl rfl Tryz.ntmps92 rfl rfl rfl ?_ fun w0 ok0 XM XA anc he0 hX0 => ?_
  · exact likeIn_cons rfl rfl fun p hp ha => by simp at hp; subst hp; cases ha
  repeat (first | refine awp_seq ?_ | refine then_n ?_ | refine then_r ?_ | refine then_x ?_ | refine block_n ?_ | refine block_r ?_ | refine block_x ?_ | refine u_y ?_ | refine loop_r ?_ | refine loop_x ?_ | refine awp_region ?_ | refine awpL_nil ?_ | refine awpQL_nil ?_ | refine awp_block ?_ | refine awp_skip ?_ | refine awp_exit ?_ | refine awp_label ?_ | refine u_dT ?_ | refine u_d ?_ | ((first | apply c_l | apply c_q | apply c_lr | apply c_qr); (iterate 2 exact rfl); (focus (first | exact e1)); (iterate 2 exact rfl)) | (apply v_c; (iterate 4 exact rfl); (focus (first | exact e1)); (iterate 2 exact rfl)) | refine u_l ?_ | refine u_o ?_ | refine u_q ?_ | refine u_lr ?_ | refine u_qr ?_ | refine u_ls ?_ | refine u_qs ?_ | refine u_t ?_ | refine u_f ?_ | refine v_s ?_ | refine v_o ?_ | refine v_on ?_ | refine v_og ?_ | refine v_q ?_ | refine v_sr ?_ | refine v_k ?_ | refine m_nil ?_)
  refine awp_loop (fun m : Nat => n.d.sure.toNat + m ≤ n.d.ord.length) (fun m => [(0, .d (.ptr (.agg [.int .i64 s, rows nx, ints lp]))), (1, .ref 10000 3), (5, .d (ints (tN nx n.d.bel n.d.bel ((n.d.ord.drop n.d.sure.toNat).take m)).1)), (6, .d (ints (tN nx n.d.bel n.d.bel ((n.d.ord.drop n.d.sure.toNat).take m)).2)), (7, .d (.int .i64 (n.d.sure + m)))])
    (fun _ => [(10000, .box [.d (.int .i64 n.st), .d (.int .i64 n.life), .d (.int .i64 n.tk), .d (.int .i64 n.d.life), .d (ints n.d.ord), .d (.int .i64 n.d.sure), .d (ints n.d.bel), .d (.int .i64 n.sv.life), .d (ints n.sv.ord), .d (.int .i64 n.sv.sure), .d (ints n.sv.bel), .own 20000]), (20000, .arr 93 4 (n.wire.map pkD))]) (fun m => n.d.ord.length - m) 0 (by omega) ?_ rfl ?_
  · ((repeat (first | exact trivial | (refine ⟨?_, ?_⟩; (focus (first | rfl | (simp [lk, argsS, args0]; done) | (simp [lk, argsS, args0]; omega)))))))
  · intro m hm
    obtain ⟨k1, k2, k3, k4⟩ := key m hm
    by_cases hlt : n.d.sure.toNat + m < n.d.ord.length
    · have hdl : m < (n.d.ord.drop n.d.sure.toNat).length := by rw [List.length_drop]; omega
      have hsn := tN_snoc (nx := nx) (x := (n.d.ord.drop n.d.sure.toNat)[m]) ((n.d.ord.drop n.d.sure.toNat).take m) n.d.bel n.d.bel
      rw [← List.take_succ_eq_append_getElem hdl] at hsn
      have hxr : 0 ≤ (n.d.ord.drop n.d.sure.toNat)[m] ∧ (n.d.ord.drop n.d.sure.toNat)[m] < nx.length := h.ord _ (List.mem_of_mem_drop (List.getElem_mem hdl))
      have hpart : partD (n.d.ord.map (D.int .i64)) (n.d.sure + m).toNat (n.d.sure + m + 1).toNat = [D.int .i64 (n.d.ord.drop n.d.sure.toNat)[m]] := by
        unfold partD
        rw [show (n.d.sure + m + 1).toNat - (n.d.sure + m).toNat = 1 by omega, show (n.d.sure + m).toNat = n.d.sure.toNat + m by omega, List.getElem_drop, ← List.map_drop, List.drop_eq_getElem_cons hlt]
        rfl
      generalize (n.d.ord.drop n.d.sure.toNat)[m] = x at *
      generalize tN nx n.d.bel n.d.bel ((n.d.ord.drop n.d.sure.toNat).take m) = T at *
      have hl1 := ris_le10 hs.2 k1 k2
      have hl3 := ris_le10 hs.2 k3 k4
      have e2 := spec_l01Image (l := T.1) (w := [x]) v k1 (by omega) (by simp) (by simpa using hxr)
      have hil := imgL_length nx T.1 [x]
      generalize hI : imgL nx T.1 [x] = I at *
      unfold ints at e2
      rw [show List.map (D.int .i64) [x] = [D.int .i64 x] from rfl, ← hpart] at e2
      repeat (first | refine awp_seq ?_ | refine then_n ?_ | refine then_r ?_ | refine then_x ?_ | refine block_n ?_ | refine block_r ?_ | refine block_x ?_ | refine u_y ?_ | refine loop_r ?_ | refine loop_x ?_ | refine awp_region ?_ | refine awpL_nil ?_ | refine awpQL_nil ?_ | refine awp_block ?_ | refine awp_skip ?_ | refine awp_exit ?_ | refine awp_label ?_ | refine u_dT ?_ | refine u_d ?_ | ((first | apply x_l | apply x_q | apply x_lr | apply x_qr); (focus (first | (apply qa_slice_lh; (iterate 10 (focus (first | exact rfl | (first | assumption | omega | (simp; omega) | (simp; done) | rfl))))))); exact rfl) | ((first | apply c_l | apply c_q | apply c_lr | apply c_qr); (iterate 2 exact rfl); (focus (first | exact e2)); (iterate 2 exact rfl)) | (apply v_x; (iterate 2 exact rfl); (focus (intro ok0 nw hle; (first | (apply qa_slice_lh; (iterate 10 (focus (first | exact rfl | (first | assumption | omega | (simp; omega) | (simp; done) | rfl)))))))); (iterate 2 exact rfl)) | (apply v_c; (iterate 4 exact rfl); (focus (first | exact e2)); (iterate 2 exact rfl)) | refine u_l ?_ | refine u_o ?_ | refine u_q ?_ | refine u_lr ?_ | refine u_qr ?_ | refine u_ls ?_ | refine u_qs ?_ | refine u_t ?_ | refine u_f ?_ | refine v_s ?_ | refine v_o ?_ | refine v_on ?_ | refine v_og ?_ | refine v_q ?_ | refine v_sr ?_ | refine v_k ?_ | refine m_nil ?_)
      refine awp_loop (fun j : Nat => j ≤ I.length) (fun j => [(0, .d (.ptr (.agg [.int .i64 s, rows nx, ints lp]))), (1, .ref 10000 3), (5, .d (ints I)), (6, .d (ints ((I.take j).foldl insL T.2))), (7, .d (.int .i64 (n.d.sure + m))), (8, .d (.int .i64 j))])
        (fun _ => [(10000, .box [.d (.int .i64 n.st), .d (.int .i64 n.life), .d (.int .i64 n.tk), .d (.int .i64 n.d.life), .d (ints n.d.ord), .d (.int .i64 n.d.sure), .d (ints n.d.bel), .d (.int .i64 n.sv.life), .d (ints n.sv.ord), .d (.int .i64 n.sv.sure), .d (ints n.sv.bel), .own 20000]), (20000, .arr 93 4 (n.wire.map pkD))]) (fun j => I.length - j) 0 (by omega) ?_ rfl ?_
      · ((repeat (first | exact trivial | (refine ⟨?_, ?_⟩; (focus (first | rfl | (simp [lk, argsS, args0]; done) | (simp [lk, argsS, args0]; omega)))))))
      · intro j hj
        have hil2 : (I.map (D.int .i64)).length = I.length := by simp
        by_cases hjl : j < I.length
        · have hx := el_int hjl
          have hfl : ∀ (L out : List Int), (L.foldl insL out).length ≤ out.length + L.length := by
            intro L
            induction L with
            | nil => intro out; simp
            | cons y L ih => intro out; have := ih (insL out y); have := insL_length out y; simp only [List.foldl_cons, List.length_cons]; omega
          have hf2 := hfl (I.take j) T.2
          rw [List.length_take] at hf2
          have e3 := spec_l00Put (l := (I.take j).foldl insL T.2) (n := I[j]) (by omega)
          have hst : (I.take (j + 1)).foldl insL T.2 = insL ((I.take j).foldl insL T.2) I[j] := by rw [List.take_succ_eq_append_getElem hjl, List.foldl_append]; rfl
          generalize (I.take j).foldl insL T.2 = O at *
          generalize I[j] = y at *
          repeat (first | refine awp_seq ?_ | refine then_n ?_ | refine then_r ?_ | refine then_x ?_ | refine block_n ?_ | refine block_r ?_ | refine block_x ?_ | refine u_y ?_ | refine loop_r ?_ | refine loop_x ?_ | refine awp_region ?_ | refine awpL_nil ?_ | refine awpQL_nil ?_ | refine awp_block ?_ | refine awp_skip ?_ | refine awp_exit ?_ | refine awp_label ?_ | refine u_dT ?_ | refine u_d ?_ | ((first | apply c_l | apply c_q | apply c_lr | apply c_qr); (iterate 2 exact rfl); (focus (first | exact e3)); (iterate 2 exact rfl)) | (apply v_c; (iterate 4 exact rfl); (focus (first | exact e3)); (iterate 2 exact rfl)) | refine u_l ?_ | refine u_o ?_ | refine u_q ?_ | refine u_lr ?_ | refine u_qr ?_ | refine u_ls ?_ | refine u_qs ?_ | refine u_t ?_ | refine u_f ?_ | refine v_s ?_ | refine v_o ?_ | refine v_on ?_ | refine v_og ?_ | refine v_q ?_ | refine v_sr ?_ | refine v_k ?_ | refine m_nil ?_)
          refine loop_n (j + 1) (by omega) ?_ rfl (by omega)
          refine ⟨rfl, rfl, rfl, ?_, rfl, ?_, trivial⟩
          · rw [hst]; rfl
          · simp [lk]
        · have : j = I.length := by omega
          subst this
          repeat (first | refine awp_seq ?_ | refine then_n ?_ | refine then_r ?_ | refine then_x ?_ | refine block_n ?_ | refine block_r ?_ | refine block_x ?_ | refine u_y ?_ | refine loop_r ?_ | refine loop_x ?_ | refine awp_region ?_ | refine awpL_nil ?_ | refine awpQL_nil ?_ | refine awp_block ?_ | refine awp_skip ?_ | refine awp_exit ?_ | refine awp_label ?_ | refine u_dT ?_ | refine u_d ?_ | refine u_l ?_ | refine u_o ?_ | refine u_q ?_ | refine u_lr ?_ | refine u_qr ?_ | refine u_ls ?_ | refine u_qs ?_ | refine u_t ?_ | refine u_f ?_ | refine v_s ?_ | refine v_o ?_ | refine v_on ?_ | refine v_og ?_ | refine v_q ?_ | refine v_sr ?_ | refine v_k ?_ | refine m_nil ?_)
          refine loop_n (m + 1) (by omega) ?_ rfl (by omega)
          refine ⟨rfl, rfl, ?_, ?_, ?_, trivial⟩
          · rw [hsn]; rfl
          · rw [hsn, List.take_length]; rfl
          · simp [lk]; omega
    · have : n.d.sure.toNat + m = n.d.ord.length := by omega
      have hall : (n.d.ord.drop n.d.sure.toNat).take m = n.d.ord.drop n.d.sure.toNat := List.take_of_length_le (by rw [List.length_drop]; omega)
      rw [hall]
      repeat (first | refine awp_seq ?_ | refine then_n ?_ | refine then_r ?_ | refine then_x ?_ | refine block_n ?_ | refine block_r ?_ | refine block_x ?_ | refine u_y ?_ | refine loop_r ?_ | refine loop_x ?_ | refine awp_region ?_ | refine awpL_nil ?_ | refine awpQL_nil ?_ | refine awp_block ?_ | refine awp_skip ?_ | refine awp_exit ?_ | refine awp_label ?_ | refine u_dT ?_ | refine u_d ?_ | refine u_l ?_ | refine u_o ?_ | refine u_q ?_ | refine u_lr ?_ | refine u_qr ?_ | refine u_ls ?_ | refine u_qs ?_ | refine u_t ?_ | refine u_f ?_ | refine v_s ?_ | refine v_o ?_ | refine v_on ?_ | refine v_og ?_ | refine v_q ?_ | refine v_sr ?_ | refine v_k ?_ | refine m_nil ?_)
      (refine awp_ret ?_; (repeat (first | refine then_r ?_ | refine block_r ?_ | refine loop_r ?_)); refine u_rH [(10000, 10000), (20000, 20000)] ?_ ?_)
      · rfl
      · rfl


theorem impl_toldR {s : Int} {nx : List (List Int)} {lp : List Int} {n : Ln} (v : LV s nx lp) (h : DskOk s nx n.d) :
    HC Tryz.prog 104 [.ref 10000 0] [(10000, wkB (.own 20000) n s nx lp), (20000, wrC n.wire)] (.own 30000) ([(10000, wkB (.own 20000) n s nx lp), (20000, wrC n.wire)] ++ [(30000, .arr 2 1 ((toldD nx n.d).map (.int .i64)))]) := by
  have hs := v.s1
  have hbl := h.bel_len (by omega)
  have hol := h.len
  have hsu := h.sure
  have hb64 : ∀ q ∈ n.d.bel, 0 ≤ q ∧ q < 64 := fun q hq => by have := h.bel q hq; omega
  have e1 := impl_flockOf hb64 (by omega)
  have hodl : (n.d.ord.map (D.int .i64)).length = n.d.ord.length := by simp
  have hel := elsOk_ints n.d.ord
  have key : ∀ m : Nat, n.d.sure.toNat + m ≤ n.d.ord.length → _ := fun m hm => tN_ok v.nx ((n.d.ord.drop n.d.sure.toNat).take m) n.d.bel n.d.bel (fun l hl => h.ord l (List.mem_of_mem_drop (List.mem_of_mem_take hl))) h.bel h.ris h.bel h.ris
  unfold toldD
  rw [tN_toldF]
  unfold wkB wrC
  refine hc_intro tabIs _ Tryz.func104 rfl rfl Tryz.ntmps104 rfl rfl rfl ?_ fun w0 ok0 XM XA anc he0 hX0 => ?_
  · exact likeIn_cons rfl rfl fun p hp ha => by simp at hp; subst hp; cases ha
  have hdm : (n.d.ord.map (D.int .i64)).drop n.d.sure.toNat = (n.d.ord.drop n.d.sure.toNat).map (.int .i64) := by rw [List.map_drop]
  have hdl : ((n.d.ord.drop n.d.sure.toNat).length : Int) = n.d.ord.length - n.d.sure := by rw [List.length_drop]; omega
  repeat (first | refine awp_seq ?_ | refine then_n ?_ | refine then_r ?_ | refine then_x ?_ | refine block_n ?_ | refine block_r ?_ | refine block_x ?_ | refine u_y ?_ | refine loop_r ?_ | refine loop_x ?_ | refine awp_region ?_ | refine awpL_nil ?_ | refine awpQL_nil ?_ | refine awp_block ?_ | refine awp_skip ?_ | refine awp_exit ?_ | refine awp_label ?_ | refine u_dT ?_ | refine u_d ?_ | ((first | apply x_l | apply x_q | apply x_lr | apply x_qr); (focus (first | (apply qa_slice_l; (iterate 8 (focus (first | exact rfl | (first | assumption | omega | (simp; omega) | (simp; done) | rfl))))))); exact rfl) | ((first | apply c_l | apply c_q | apply c_lr | apply c_qr); (iterate 2 exact rfl); (focus (first | exact e1)); (iterate 2 exact rfl)) | (apply v_x; (iterate 2 exact rfl); (focus (intro ok0 nw hle; (first | (apply qa_slice_l; (iterate 8 (focus (first | exact rfl | (first | assumption | omega | (simp; omega) | (simp; done) | rfl)))))))); (iterate 2 exact rfl)) | (apply v_c; (iterate 4 exact rfl); (focus (first | exact e1)); (iterate 2 exact rfl)) | refine u_l ?_ | refine u_o ?_ | refine u_q ?_ | refine u_lr ?_ | refine u_qr ?_ | refine u_ls ?_ | refine u_qs ?_ | refine u_t ?_ | refine u_f ?_ | refine v_s ?_ | refine v_o ?_ | refine v_on ?_ | refine v_og ?_ | refine v_q ?_ | refine v_sr ?_ | refine v_k ?_ | refine m_nil ?_)
  refine awp_loop (fun m : Nat => n.d.sure.toNat + m ≤ n.d.ord.length) (fun m => [(0, .ref 10000 0), (3, .d (.int .u64 (bitsL 0 (tN nx n.d.bel n.d.bel ((n.d.ord.drop n.d.sure.toNat).take m)).1 : Nat))), (4, .d (.int .u64 (bitsL 0 (tN nx n.d.bel n.d.bel ((n.d.ord.drop n.d.sure.toNat).take m)).2 : Nat))), (27, .d (.lst ((n.d.ord.map (D.int .i64)).drop n.d.sure.toNat))), (28, .d (.int .i64 ((n.d.ord.map (D.int .i64)).drop n.d.sure.toNat).length)), (29, .d (.int .i64 m))])
    (fun _ => [(10000, wkB (.own 20000) n s nx lp), (20000, wrC n.wire)]) (fun m => n.d.ord.length - m) 0 (by omega) ?_ rfl ?_
  · ((repeat (first | exact trivial | (refine ⟨?_, ?_⟩; (focus (first | rfl | (simp [lk, argsS, args0]; done) | (simp [lk, argsS, args0]; omega)))))))
  · intro m hm
    obtain ⟨k1, k2, k3, k4⟩ := key m hm
    have hdml : ((n.d.ord.map (D.int .i64)).drop n.d.sure.toNat).length = n.d.ord.length - n.d.sure.toNat := by simp
    by_cases hlt : n.d.sure.toNat + m < n.d.ord.length
    · have hdl2 : m < (n.d.ord.drop n.d.sure.toNat).length := by rw [List.length_drop]; omega
      have hsn := tN_snoc (nx := nx) (x := (n.d.ord.drop n.d.sure.toNat)[m]) ((n.d.ord.drop n.d.sure.toNat).take m) n.d.bel n.d.bel
      rw [← List.take_succ_eq_append_getElem hdl2] at hsn
      have hxr : 0 ≤ (n.d.ord.drop n.d.sure.toNat)[m] ∧ (n.d.ord.drop n.d.sure.toNat)[m] < nx.length := h.ord _ (List.mem_of_mem_drop (List.getElem_mem hdl2))
      have hx : ((n.d.ord.map (D.int .i64)).drop n.d.sure.toNat)[(m : Int).toNat]? = some (.int .i64 (n.d.ord.drop n.d.sure.toNat)[m]) := by
        rw [hdm, List.getElem?_map, Int.toNat_natCast, List.getElem?_eq_getElem hdl2]
        rfl
      generalize (n.d.ord.drop n.d.sure.toNat)[m] = x at *
      generalize tN nx n.d.bel n.d.bel ((n.d.ord.drop n.d.sure.toNat).take m) = T at *
      have g1 : ∀ q ∈ T.1, 0 ≤ q ∧ q < 64 := fun q hq => by have := k1 q hq; omega
      have g3 : ∀ q ∈ T.2, 0 ≤ q ∧ q < 64 := fun q hq => by have := k3 q hq; omega
      have b1 := bitsL_lt T.1 0 (by omega) fun q hq => by have := g1 q hq; omega
      have b3 := bitsL_lt T.2 0 (by omega) fun q hq => by have := g3 q hq; omega
      have hset : setN (bitsL 0 T.1) = T.1 := setN_bits g1 k2
      have e2 := impl_step (x := x) v b1 (by rw [hset]; exact k1) hxr
      obtain ⟨i1, i2⟩ := imgL_spec nx T.1 [x]
      have hbi : bitsL 0 ((setN (bitsL 0 T.1)).map fun q => at2 nx x q) = bitsL 0 (imgL nx T.1 [x]) := by
        rw [hset]
        refine bits_ext fun y => ?_
        rw [i2, List.mem_map]
        constructor
        · rintro ⟨q, hq, rfl⟩; exact ⟨q, hq, rfl⟩
        · rintro ⟨q, hq, rfl⟩; exact ⟨q, hq, rfl⟩
      rw [hbi] at e2
      have hI : ∀ q ∈ imgL nx T.1 [x], 0 ≤ q ∧ q < s := fun q hq => by
        obtain ⟨q0, hq0, rfl⟩ := (i2 q).1 hq
        exact runS_range v.nx [x] (k1 q0 hq0) fun l hl => by simp at hl; subst hl; exact hxr
      have b5 := bitsL_lt (imgL nx T.1 [x]) 0 (by omega) fun q hq => by have := hI q hq; omega
      have hor := bits_or (imgL nx T.1 [x]) T.2
      generalize imgL nx T.1 [x] = I at *
      have r1 : (0 : Int) ≤ (bitsL 0 T.2 : Nat) ∧ ((bitsL 0 T.2 : Nat) : Int) < 18446744073709551616 := by omega
      have r2 : (0 : Int) ≤ (bitsL 0 I : Nat) ∧ ((bitsL 0 I : Nat) : Int) < 18446744073709551616 := by omega
      unfold wkB wrC
      repeat (first | refine awp_seq ?_ | refine then_n ?_ | refine then_r ?_ | refine then_x ?_ | refine block_n ?_ | refine block_r ?_ | refine block_x ?_ | refine u_y ?_ | refine loop_r ?_ | refine loop_x ?_ | refine awp_region ?_ | refine awpL_nil ?_ | refine awpQL_nil ?_ | refine awp_block ?_ | refine awp_skip ?_ | refine awp_exit ?_ | refine awp_label ?_ | refine u_dT ?_ | refine u_d ?_ | ((first | apply x_l | apply x_q | apply x_lr | apply x_qr); (focus (first | (apply qb_or; (iterate 4 (focus (first | exact rfl | (first | assumption | omega | (simp; omega) | (simp; done) | rfl))))))); exact rfl) | ((first | apply c_l | apply c_q | apply c_lr | apply c_qr); (iterate 2 exact rfl); (focus (first | exact e2)); (iterate 2 exact rfl)) | (apply v_x; (iterate 2 exact rfl); (focus (intro ok0 nw hle; (first | (apply qb_or; (iterate 4 (focus (first | exact rfl | (first | assumption | omega | (simp; omega) | (simp; done) | rfl)))))))); (iterate 2 exact rfl)) | (apply v_c; (iterate 4 exact rfl); (focus (first | exact e2)); (iterate 2 exact rfl)) | refine u_l ?_ | refine u_o ?_ | refine u_q ?_ | refine u_lr ?_ | refine u_qr ?_ | refine u_ls ?_ | refine u_qs ?_ | refine u_t ?_ | refine u_f ?_ | refine v_s ?_ | refine v_o ?_ | refine v_on ?_ | refine v_og ?_ | refine v_q ?_ | refine v_sr ?_ | refine v_k ?_ | refine m_nil ?_)
      refine loop_n (m + 1) (by omega) ?_ rfl (by omega)
      refine ⟨rfl, ?_, ?_, rfl, rfl, ?_, trivial⟩
      · rw [hsn]; rfl
      · rw [hsn]
        show SV.d (.int .u64 _) = SV.d (.int .u64 _)
        rw [hor, ← bor_eq]
      · simp [lk]
    · have : n.d.sure.toNat + m = n.d.ord.length := by omega
      have hall : (n.d.ord.drop n.d.sure.toNat).take m = n.d.ord.drop n.d.sure.toNat := List.take_of_length_le (by rw [List.length_drop]; omega)
      rw [hall] at k1 k2 k3 k4 ⊢
      generalize tN nx n.d.bel n.d.bel (n.d.ord.drop n.d.sure.toNat) = T at *
      have g3 : ∀ q ∈ T.2, 0 ≤ q ∧ q < 64 := fun q hq => by have := k3 q hq; omega
      have b3 := bitsL_lt T.2 0 (by omega) fun q hq => by have := g3 q hq; omega
      have e3 := impl_setH b3
      rw [setN_bits g3 k4] at e3
      repeat (first | refine awp_seq ?_ | refine then_n ?_ | refine then_r ?_ | refine then_x ?_ | refine block_n ?_ | refine block_r ?_ | refine block_x ?_ | refine u_y ?_ | refine loop_r ?_ | refine loop_x ?_ | refine awp_region ?_ | refine awpL_nil ?_ | refine awpQL_nil ?_ | refine awp_block ?_ | refine awp_skip ?_ | refine awp_exit ?_ | refine awp_label ?_ | refine u_dT ?_ | refine u_d ?_ | refine u_l ?_ | refine u_o ?_ | refine u_q ?_ | refine u_lr ?_ | refine u_qr ?_ | refine u_ls ?_ | refine u_qs ?_ | refine u_t ?_ | refine u_f ?_ | refine v_s ?_ | refine v_o ?_ | refine v_on ?_ | refine v_og ?_ | refine v_q ?_ | refine v_sr ?_ | refine v_k ?_ | refine m_nil ?_)
      refine hcl [] [(30000, 500)] e3 ?_
      repeat (first | refine awp_seq ?_ | refine then_n ?_ | refine then_r ?_ | refine then_x ?_ | refine block_n ?_ | refine block_r ?_ | refine block_x ?_ | refine u_y ?_ | refine loop_r ?_ | refine loop_x ?_ | refine awp_region ?_ | refine awpL_nil ?_ | refine awpQL_nil ?_ | refine awp_block ?_ | refine awp_skip ?_ | refine awp_exit ?_ | refine awp_label ?_ | refine u_dT ?_ | refine u_d ?_ | refine u_l ?_ | refine u_o ?_ | refine u_q ?_ | refine u_lr ?_ | refine u_qr ?_ | refine u_ls ?_ | refine u_qs ?_ | refine u_t ?_ | refine u_f ?_ | refine v_s ?_ | refine v_o ?_ | refine v_on ?_ | refine v_og ?_ | refine v_q ?_ | refine v_sr ?_ | refine v_k ?_ | refine m_nil ?_)
      (refine awp_ret ?_; (repeat (first | refine then_r ?_ | refine block_r ?_ | refine loop_r ?_)); refine u_rH [(10000, 10000), (20000, 20000), (500, 30000)] ?_ ?_)
      · rfl
      · rfl
end Go.Proofs.YtffmlijngfhhaaaGreatDoor
