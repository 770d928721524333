/- AdaptiveRun: the walks and the law. No condition. -/
import Derived.Test.YtkomkhigcdkpdaaDi
import Derived.Test.YtkomkhigcdkpdaaFwU
namespace Go.Proofs.Ytkomkhigcdkpdaa
open Go
attribute [local irreducible] awp awpL awpQL awpQ awpM pWalk Qt AC thenQ blockQ loopQ OpTo
set_option linter.unusedVariables false
set_option linter.unusedSimpArgs false
set_option maxHeartbeats 2000000
attribute [local irreducible] HC

theorem spec_AdaptiveRun {s q : Int} {nx : List (List Int)} {lp l : List Int} (h : RowsOk nx) (h2 : lp.length ≤ 9223372036854775807) (h3 : l.length ≤ 9223372036854775807) :
    AC Try.prog 19 [.agg [.int .i64 s, rows nx, ints lp], ints l, .int .i64 q] (.tup [ints (rnD s nx lp l q).1, .int .i64 (rnD s nx lp l q).2.1, .int .i64 (rnD s nx lp l q).2.2]) := by
  have e1 := spec_l08Ok (s := s) (nx := nx) (lp := lp) h h2
  unfold rnD
  by_cases hc : adC s nx lp l = 0
  · obtain ⟨v, hv, hr, hm, hp, hb, hl⟩ := adC_facts hc
    have hs := v.s1
    have hn := v.n1
    have e2 := spec_l01Set (s := s) (nx := nx) (l := l) hs h3
    rw [hv] at e1
    rw [hr] at e2
    rw [if_pos hc]
    have e3 := spec_l00Has (l := l) (q := q) h3
    by_cases hq : q ∈ l
    · rw [if_pos hq]
      rw [decide_eq_true hq] at e3
      have hq1 := hm q hq
      have e4 := spec_depths v
      have e5 := spec_l02Bits (l := l) (fun q hq => by have := hm q hq; omega) h3
      have hel := fnL_el (F := dep s nx lp) hb
      have hdr := dep_range (s := s) (nx := nx) (lp := lp) (f := bitsL 0 l)
      have hpw := pow_le (m := s.toNat) (by omega)
      have hset : setN (bitsL 0 l) = l := setN_bits (fun q hq => by have := hm q hq; omega) hp
      generalize bitsL 0 l = f0 at *
      by_cases h0 : 0 ≤ dep s nx lp f0
      · rw [if_pos h0]
        generalize hR : runA s nx lp (dep s nx lp f0).toNat f0 q [] = R at *
        subst hset
        refine ac_intro tabIs _ Try.func19 rfl rfl Try.ntmps19 rfl rfl fun w0 ok0 => ?_
        repeat (first | refine v_w (t := 34) ?_ | refine awp_seq ?_ | refine then_n ?_ | refine then_r ?_ | refine then_x ?_ | refine block_n ?_ | refine block_r ?_ | refine block_x ?_ | refine u_y ?_ | refine loop_r ?_ | refine loop_x ?_ | refine awp_region ?_ | refine awpL_nil ?_ | refine awpQL_nil ?_ | refine awp_block ?_ | refine awp_skip ?_ | refine awp_exit ?_ | refine awp_label ?_ | refine u_dT ?_ | refine u_d ?_ | refine u_w (t := 34) ?_ | ((first | apply c_l | apply c_q | apply c_lr | apply c_qr); (iterate 2 exact rfl); (focus (first | exact e1 | exact e2 | exact e3 | exact e4 | exact e5)); (iterate 2 exact rfl)) | (apply v_c; (iterate 4 exact rfl); (focus (first | exact e1 | exact e2 | exact e3 | exact e4 | exact e5)); (iterate 2 exact rfl)) | refine u_l ?_ | refine u_o ?_ | refine u_q ?_ | refine u_lr ?_ | refine u_qr ?_ | refine u_ls ?_ | refine u_qs ?_ | refine u_t ?_ | refine u_f ?_ | refine v_s ?_ | refine v_o ?_ | refine v_on ?_ | refine v_og ?_ | refine v_q ?_ | refine v_sr ?_ | refine v_k ?_ | refine m_nil ?_)
        refine awp_loop (fun p : Nat × Int × List Int × Nat => p.1 < 2 ^ s.toNat ∧ (0 ≤ p.2.1 ∧ p.2.1 < s) ∧ 0 ≤ dep s nx lp p.1 ∧ dep s nx lp p.1 ≤ p.2.2.2 ∧ p.2.2.1.length + p.2.2.2 ≤ 1024 ∧ runA s nx lp p.2.2.2 p.1 p.2.1 p.2.2.1 = R)
          (fun p => [(1, .d (ints (setN p.1))), (2, .d (.int .i64 p.2.1)), (3, .d (.ptr (.agg [.int .i64 s, rows nx, ints lp]))), (9, .d (ints (fnL (2 ^ s.toNat) (dep s nx lp)))), (10, .own 34)]) (fun p => [(34, .arr 2 1 (p.2.2.1.map (.int .i64)))]) (fun p => (dep s nx lp p.1).toNat) (f0, q, [], (dep s nx lp f0).toNat) (by exact ⟨hb, hq1, h0, by simp only []; omega, by simp only [List.length_nil]; omega, hR⟩) ?_ rfl ?_
        · ((repeat (first | exact trivial | (refine ⟨?_, ?_⟩; (focus (first | rfl | (simp [lk, argsS, args0]; done) | (simp [lk, argsS, args0]; omega)))))))
        · rintro ⟨f, q, out, k⟩ ⟨i1, i2, i3, i4, i5, i6⟩
          simp only [] at i1 i2 i3 i4 i5 i6 ⊢
          have hf1024 : f < 1024 := by omega
          have hls := len_sm hf1024
          have hdz := dep_zero (s := s) (nx := nx) (lp := lp) (f := f)
          have hle : (List.map (D.int IntKind.i64) (setN f)).length = (setN f).length := by simp
          have hlo : (out.map (D.int IntKind.i64)).length = out.length := by simp
          by_cases hz : dep s nx lp f = 0
          · have hsm := hls.2 (hdz.1 hz)
            rw [runA_end hz] at i6
            subst i6
            repeat (first | refine awp_seq ?_ | refine then_n ?_ | refine then_r ?_ | refine then_x ?_ | refine block_n ?_ | refine block_r ?_ | refine block_x ?_ | refine u_y ?_ | refine loop_r ?_ | refine loop_x ?_ | refine awp_region ?_ | refine awpL_nil ?_ | refine awpQL_nil ?_ | refine awp_block ?_ | refine awp_skip ?_ | refine awp_exit ?_ | refine awp_label ?_ | refine u_dT ?_ | refine u_d ?_ | refine u_l ?_ | refine u_o ?_ | refine u_q ?_ | refine u_lr ?_ | refine u_qr ?_ | refine u_ls ?_ | refine u_qs ?_ | refine u_t ?_ | refine u_f ?_ | refine v_s ?_ | refine v_o ?_ | refine v_on ?_ | refine v_og ?_ | refine v_q ?_ | refine v_sr ?_ | refine v_k ?_ | refine m_nil ?_)
            (refine awp_ret ?_; (repeat (first | refine then_r ?_ | refine block_r ?_ | refine loop_r ?_)); apply ret_ok (.inr rfl); (focus exact rfl))
            rfl
          · have hbig : ¬ (setN f).length ≤ 1 := fun h => hz (hdz.2 (hls.1 h))
            obtain ⟨x, y, q', st⟩ := stp hv i1 i2 (by omega)
            have hL : ∀ q ∈ setN f, 0 ≤ q ∧ q < s := fun q hq => by have := setN_lt i1 hq; omega
            have hx' : 0 ≤ (x : Int) ∧ (x : Int) < nx.length := by have := st.x1; omega
            have hLn : (setN f).length ≤ 64 := setTo_length f 64
            have e6 := spec_l02Bits (l := setN f) (fun q hq => by have := hL q hq; omega) (by omega)
            rw [bits_set (by omega)] at e6
            have e7 := spec_l08Letter (G := dep s nx lp) v i1 (by have := dep_range (s := s) (nx := nx) (lp := lp) (f := f); omega)
            rw [(ltr_spec (s := s) (nx := nx) (lp := lp) (f := f) (by omega)).2, st.l1] at e7
            have r1 := el_row2 hx'
            have hrow := tbl_row v.nx hx'
            have r2 : (List.map (D.int .i64) (row nx x))[q.toNat]? = some (.int .i64 q') := by
              have := el_int2 (ns := row nx x) (q := q) (by omega)
              rw [show (row nx x).getD q.toNat 0 = q' from st.a1] at this
              exact this
            have hq2 := st.q1
            have hlp := v.lp
            have r3 : (List.map (D.int .i64) lp)[q'.toNat]? = some (.int .i64 (y : Int)) := by
              have := el_int2 (ns := lp) (q := q') (by omega)
              rw [show lp.getD q'.toNat 0 = (y : Int) from st.y2] at this
              exact this
            have e8 := spec_l08Believed (x := (x : Int)) (y := (y : Int)) v hL (by omega) hx'
            rw [bel_list v i1 st.x1] at e8
            have hd1 := st.d1
            have hr1 := st.r1 k out i4
            have hf1 := st.f1
            have hx2 := st.x1
            repeat (first | refine awp_seq ?_ | refine then_n ?_ | refine then_r ?_ | refine then_x ?_ | refine block_n ?_ | refine block_r ?_ | refine block_x ?_ | refine u_y ?_ | refine loop_r ?_ | refine loop_x ?_ | refine awp_region ?_ | refine awpL_nil ?_ | refine awpQL_nil ?_ | refine awp_block ?_ | refine awp_skip ?_ | refine awp_exit ?_ | refine awp_label ?_ | refine u_dT ?_ | refine u_d ?_ | ((first | apply c_l | apply c_q | apply c_lr | apply c_qr); (iterate 2 exact rfl); (focus (first | exact e6 | exact e7 | exact e8)); (iterate 2 exact rfl)) | (apply v_c; (iterate 4 exact rfl); (focus (first | exact e6 | exact e7 | exact e8)); (iterate 2 exact rfl)) | refine u_l ?_ | refine u_o ?_ | refine u_q ?_ | refine u_lr ?_ | refine u_qr ?_ | refine u_ls ?_ | refine u_qs ?_ | refine u_t ?_ | refine u_f ?_ | refine v_s ?_ | refine v_o ?_ | refine v_on ?_ | refine v_og ?_ | refine v_q ?_ | refine v_sr ?_ | refine v_k ?_ | refine m_nil ?_)
            refine loop_n (bel nx lp f x y, q', out ++ [(x : Int)], k - 1) ⟨hf1, hq2, hd1.1, by simp only []; omega, by simp only [List.length_append, List.length_singleton]; omega, by rw [← hr1]; exact i6⟩ ?_ ?_ (by simp only []; omega)
            · ((repeat (first | exact trivial | (refine ⟨?_, ?_⟩; (focus (first | rfl | (simp [lk, argsS, args0]; done) | (simp [lk, argsS, args0]; omega)))))))
            · simp [killH, keepH, memB]
      · rw [if_neg h0]
        refine ac_intro tabIs _ Try.func19 rfl rfl Try.ntmps19 rfl rfl fun w0 ok0 => ?_
        repeat (first | refine awp_seq ?_ | refine then_n ?_ | refine then_r ?_ | refine then_x ?_ | refine block_n ?_ | refine block_r ?_ | refine block_x ?_ | refine u_y ?_ | refine loop_r ?_ | refine loop_x ?_ | refine awp_region ?_ | refine awpL_nil ?_ | refine awpQL_nil ?_ | refine awp_block ?_ | refine awp_skip ?_ | refine awp_exit ?_ | refine awp_label ?_ | refine u_dT ?_ | refine u_d ?_ | ((first | apply c_l | apply c_q | apply c_lr | apply c_qr); (iterate 2 exact rfl); (focus (first | exact e1 | exact e2 | exact e3 | exact e4 | exact e5)); (iterate 2 exact rfl)) | (apply v_c; (iterate 4 exact rfl); (focus (first | exact e1 | exact e2 | exact e3 | exact e4 | exact e5)); (iterate 2 exact rfl)) | refine u_l ?_ | refine u_o ?_ | refine u_q ?_ | refine u_lr ?_ | refine u_qr ?_ | refine u_ls ?_ | refine u_qs ?_ | refine u_t ?_ | refine u_f ?_ | refine v_s ?_ | refine v_o ?_ | refine v_on ?_ | refine v_og ?_ | refine v_q ?_ | refine v_sr ?_ | refine v_k ?_ | refine m_nil ?_)
        (refine awp_ret ?_; (repeat (first | refine then_r ?_ | refine block_r ?_ | refine loop_r ?_)); apply ret_ok (.inr rfl); (focus exact rfl))
        rfl
    · rw [if_neg hq]
      rw [decide_eq_false hq] at e3
      refine ac_intro tabIs _ Try.func19 rfl rfl Try.ntmps19 rfl rfl fun w0 ok0 => ?_
      repeat (first | refine awp_seq ?_ | refine then_n ?_ | refine then_r ?_ | refine then_x ?_ | refine block_n ?_ | refine block_r ?_ | refine block_x ?_ | refine u_y ?_ | refine loop_r ?_ | refine loop_x ?_ | refine awp_region ?_ | refine awpL_nil ?_ | refine awpQL_nil ?_ | refine awp_block ?_ | refine awp_skip ?_ | refine awp_exit ?_ | refine awp_label ?_ | refine u_dT ?_ | refine u_d ?_ | ((first | apply c_l | apply c_q | apply c_lr | apply c_qr); (iterate 2 exact rfl); (focus (first | exact e1 | exact e2 | exact e3)); (iterate 2 exact rfl)) | (apply v_c; (iterate 4 exact rfl); (focus (first | exact e1 | exact e2 | exact e3)); (iterate 2 exact rfl)) | refine u_l ?_ | refine u_o ?_ | refine u_q ?_ | refine u_lr ?_ | refine u_qr ?_ | refine u_ls ?_ | refine u_qs ?_ | refine u_t ?_ | refine u_f ?_ | refine v_s ?_ | refine v_o ?_ | refine v_on ?_ | refine v_og ?_ | refine v_q ?_ | refine v_sr ?_ | refine v_k ?_ | refine m_nil ?_)
      (refine awp_ret ?_; (repeat (first | refine then_r ?_ | refine block_r ?_ | refine loop_r ?_)); apply ret_ok (.inr rfl); (focus exact rfl))
      rfl
  · rw [if_neg hc]
    rcases adC_not hc with ⟨hv, ha⟩ | ⟨hv, hr, ha⟩
    · rw [ha]
      rw [hv] at e1
      refine ac_intro tabIs _ Try.func19 rfl rfl Try.ntmps19 rfl rfl fun w0 ok0 => ?_
      repeat (first | refine awp_seq ?_ | refine then_n ?_ | refine then_r ?_ | refine then_x ?_ | refine block_n ?_ | refine block_r ?_ | refine block_x ?_ | refine u_y ?_ | refine loop_r ?_ | refine loop_x ?_ | refine awp_region ?_ | refine awpL_nil ?_ | refine awpQL_nil ?_ | refine awp_block ?_ | refine awp_skip ?_ | refine awp_exit ?_ | refine awp_label ?_ | refine u_dT ?_ | refine u_d ?_ | ((first | apply c_l | apply c_q | apply c_lr | apply c_qr); (iterate 2 exact rfl); (focus (first | exact e1)); (iterate 2 exact rfl)) | (apply v_c; (iterate 4 exact rfl); (focus (first | exact e1)); (iterate 2 exact rfl)) | refine u_l ?_ | refine u_o ?_ | refine u_q ?_ | refine u_lr ?_ | refine u_qr ?_ | refine u_ls ?_ | refine u_qs ?_ | refine u_t ?_ | refine u_f ?_ | refine v_s ?_ | refine v_o ?_ | refine v_on ?_ | refine v_og ?_ | refine v_q ?_ | refine v_sr ?_ | refine v_k ?_ | refine m_nil ?_)
      (refine awp_ret ?_; (repeat (first | refine then_r ?_ | refine block_r ?_ | refine loop_r ?_)); apply ret_ok (.inr rfl); (focus exact rfl))
      rfl
    · rw [ha]
      rw [hv] at e1
      have e2 := spec_l01Set (s := s) (nx := nx) (l := l) (lv_of hv).s1 h3
      rw [hr] at e2
      refine ac_intro tabIs _ Try.func19 rfl rfl Try.ntmps19 rfl rfl fun w0 ok0 => ?_
      repeat (first | refine awp_seq ?_ | refine then_n ?_ | refine then_r ?_ | refine then_x ?_ | refine block_n ?_ | refine block_r ?_ | refine block_x ?_ | refine u_y ?_ | refine loop_r ?_ | refine loop_x ?_ | refine awp_region ?_ | refine awpL_nil ?_ | refine awpQL_nil ?_ | refine awp_block ?_ | refine awp_skip ?_ | refine awp_exit ?_ | refine awp_label ?_ | refine u_dT ?_ | refine u_d ?_ | ((first | apply c_l | apply c_q | apply c_lr | apply c_qr); (iterate 2 exact rfl); (focus (first | exact e1 | exact e2)); (iterate 2 exact rfl)) | (apply v_c; (iterate 4 exact rfl); (focus (first | exact e1 | exact e2)); (iterate 2 exact rfl)) | refine u_l ?_ | refine u_o ?_ | refine u_q ?_ | refine u_lr ?_ | refine u_qr ?_ | refine u_ls ?_ | refine u_qs ?_ | refine u_t ?_ | refine u_f ?_ | refine v_s ?_ | refine v_o ?_ | refine v_on ?_ | refine v_og ?_ | refine v_q ?_ | refine v_sr ?_ | refine v_k ?_ | refine m_nil ?_)
      (refine awp_ret ?_; (repeat (first | refine then_r ?_ | refine block_r ?_ | refine loop_r ?_)); apply ret_ok (.inr rfl); (focus exact rfl))
      rfl

theorem impl_AdaptiveRunH {s q : Int} {nx : List (List Int)} {lp l : List Int} (h : RowsOk nx) (h2 : lp.length ≤ 9223372036854775807) (h3 : l.length ≤ 9223372036854775807) :
    HC Try.prog 20 [.d (.agg [.int .i64 s, rows nx, ints lp]), .d (ints l), .d (.int .i64 q)] [] (.tup [.own 30000, .d (.int .i64 (rnD s nx lp l q).2.1), .d (.int .i64 (rnD s nx lp l q).2.2)]) [(30000, .arr 2 1 ((rnD s nx lp l q).1.map (.int .i64)))] := by
  have e1 := impl_adaptiveCode (s := s) (nx := nx) (lp := lp) (l := l) h h2 h3
  unfold rnD
  by_cases hc : adC s nx lp l = 0
  · obtain ⟨v, hv, hr, hm, hp, hb, hl⟩ := adC_facts hc
    have hs := v.s1
    have hn := v.n1
    rw [hc] at e1
    rw [if_pos hc]
    have e3 := impl_containsS (l := l) (q := q) h3
    by_cases hq : q ∈ l
    · rw [if_pos hq]
      rw [decide_eq_true hq] at e3
      have hq1 := hm q hq
      have e2 := impl_flockOf (l := l) (fun q hq => by have := hm q hq; omega) h3
      have hdr := dep_range (s := s) (nx := nx) (lp := lp) (f := bitsL 0 l)
      have hpw := pow_le (m := s.toNat) (by omega)
      have e4 := impl_adaptive v hb
      generalize bitsL 0 l = f0 at *
      by_cases h0 : 0 ≤ dep s nx lp f0
      · rw [if_pos h0]
        generalize hR : runA s nx lp (dep s nx lp f0).toNat f0 q [] = R at *
        refine hc_intro tabIs _ Try.func20 rfl rfl Try.ntmps20 rfl rfl rfl ?_ fun w0 ok0 XM XA anc => ?_
        · exact likeIn_nil
        repeat (first | refine v_w (t := 31) ?_ | refine awp_seq ?_ | refine then_n ?_ | refine then_r ?_ | refine then_x ?_ | refine block_n ?_ | refine block_r ?_ | refine block_x ?_ | refine u_y ?_ | refine loop_r ?_ | refine loop_x ?_ | refine awp_region ?_ | refine awpL_nil ?_ | refine awpQL_nil ?_ | refine awp_block ?_ | refine awp_skip ?_ | refine awp_exit ?_ | refine awp_label ?_ | refine u_dT ?_ | refine u_d ?_ | refine u_w (t := 31) ?_ | ((first | apply c_l | apply c_q | apply c_lr | apply c_qr); (iterate 2 exact rfl); (focus (first | exact e1 | exact e2 | exact e3)); (iterate 2 exact rfl)) | (apply v_c; (iterate 4 exact rfl); (focus (first | exact e1 | exact e2 | exact e3)); (iterate 2 exact rfl)) | refine u_l ?_ | refine u_o ?_ | refine u_q ?_ | refine u_lr ?_ | refine u_qr ?_ | refine u_ls ?_ | refine u_qs ?_ | refine u_t ?_ | refine u_f ?_ | refine v_s ?_ | refine v_o ?_ | refine v_on ?_ | refine v_og ?_ | refine v_q ?_ | refine v_sr ?_ | refine v_k ?_ | refine m_nil ?_)
        refine awp_loop (fun p : Nat × Int × List Int × Nat => p.1 < 2 ^ s.toNat ∧ (0 ≤ p.2.1 ∧ p.2.1 < s) ∧ 0 ≤ dep s nx lp p.1 ∧ dep s nx lp p.1 ≤ p.2.2.2 ∧ p.2.2.1.length + p.2.2.2 ≤ 1024 ∧ runA s nx lp p.2.2.2 p.1 p.2.1 p.2.2.1 = R)
          (fun p => [(2, .d (.int .i64 p.2.1)), (3, .d (.ptr (.agg [.int .i64 s, rows nx, ints lp]))), (10, .d (.int .u64 p.1)), (11, .own 31)]) (fun p => [(31, .arr 2 1 (p.2.2.1.map (.int .i64)))]) (fun p => (dep s nx lp p.1).toNat) (f0, q, [], (dep s nx lp f0).toNat) (by exact ⟨hb, hq1, h0, by simp only []; omega, by simp only [List.length_nil]; omega, hR⟩) ?_ rfl ?_
        · ((repeat (first | exact trivial | (refine ⟨?_, ?_⟩; (focus (first | rfl | (simp [lk, argsS, args0]; done) | (simp [lk, argsS, args0]; omega)))))))
        · rintro ⟨f, q, out, k⟩ ⟨i1, i2, i3, i4, i5, i6⟩
          simp only [] at i1 i2 i3 i4 i5 i6 ⊢
          have e5 := impl_adaptive v i1
          have hlo : (out.map (D.int IntKind.i64)).length = out.length := by simp
          rw [if_pos i3, if_pos i3, decide_eq_true i3] at e5
          by_cases hz : dep s nx lp f = 0
          · rw [runA_end hz] at i6
            subst i6
            repeat (first | refine awp_seq ?_ | refine then_n ?_ | refine then_r ?_ | refine then_x ?_ | refine block_n ?_ | refine block_r ?_ | refine block_x ?_ | refine u_y ?_ | refine loop_r ?_ | refine loop_x ?_ | refine awp_region ?_ | refine awpL_nil ?_ | refine awpQL_nil ?_ | refine awp_block ?_ | refine awp_skip ?_ | refine awp_exit ?_ | refine awp_label ?_ | refine u_dT ?_ | refine u_d ?_ | ((first | apply c_l | apply c_q | apply c_lr | apply c_qr); (iterate 2 exact rfl); (focus (first | exact e5)); (iterate 2 exact rfl)) | (apply v_c; (iterate 4 exact rfl); (focus (first | exact e5)); (iterate 2 exact rfl)) | refine u_l ?_ | refine u_o ?_ | refine u_q ?_ | refine u_lr ?_ | refine u_qr ?_ | refine u_ls ?_ | refine u_qs ?_ | refine u_t ?_ | refine u_f ?_ | refine v_s ?_ | refine v_o ?_ | refine v_on ?_ | refine v_og ?_ | refine v_q ?_ | refine v_sr ?_ | refine v_k ?_ | refine m_nil ?_)
            (refine awp_ret ?_; (repeat (first | refine then_r ?_ | refine block_r ?_ | refine loop_r ?_)); refine u_rH [(31, 30000)] ?_ ?_)
            · rfl
            · rfl
          · obtain ⟨x, y, q', st⟩ := stp hv i1 i2 (by omega)
            have hx' : 0 ≤ (x : Int) ∧ (x : Int) < nx.length := by have := st.x1; omega
            rw [st.l1] at e5
            have r1 := el_row2 hx'
            have hrow := tbl_row v.nx hx'
            have r2 : (List.map (D.int .i64) (row nx x))[q.toNat]? = some (.int .i64 q') := by
              have := el_int2 (ns := row nx x) (q := q) (by omega)
              rw [show (row nx x).getD q.toNat 0 = q' from st.a1] at this
              exact this
            have hq2 := st.q1
            have hlp := v.lp
            have r3 : (List.map (D.int .i64) lp)[q'.toNat]? = some (.int .i64 (y : Int)) := by
              have := el_int2 (ns := lp) (q := q') (by omega)
              rw [show lp.getD q'.toNat 0 = (y : Int) from st.y2] at this
              exact this
            have e8 := impl_believedN (y := y) v i1 st.x1
            have hd1 := st.d1
            have hr1 := st.r1 k out i4
            have hf1 := st.f1
            have hx2 := st.x1
            repeat (first | refine awp_seq ?_ | refine then_n ?_ | refine then_r ?_ | refine then_x ?_ | refine block_n ?_ | refine block_r ?_ | refine block_x ?_ | refine u_y ?_ | refine loop_r ?_ | refine loop_x ?_ | refine awp_region ?_ | refine awpL_nil ?_ | refine awpQL_nil ?_ | refine awp_block ?_ | refine awp_skip ?_ | refine awp_exit ?_ | refine awp_label ?_ | ((first | apply c_l | apply c_q | apply c_lr | apply c_qr); (iterate 2 exact rfl); (focus (first | exact e5)); (iterate 2 exact rfl)) | (apply v_c; (iterate 4 exact rfl); (focus (first | exact e5)); (iterate 2 exact rfl)) | refine u_l ?_ | refine u_o ?_ | refine u_q ?_ | refine u_lr ?_ | refine u_qr ?_ | refine u_ls ?_ | refine u_qs ?_ | refine u_t ?_ | refine u_f ?_ | refine v_s ?_ | refine v_o ?_ | refine v_on ?_ | refine v_og ?_ | refine v_q ?_ | refine v_sr ?_ | refine v_k ?_ | refine m_nil ?_)
            refine u_m [(3, [31])] (.tk [] [0, 1, 2, 3] (.tk [31] [4, 5, 6, 7, 8, 9, 10, 11, 12] (.tk [] [13, 14] .done))) ?_
            repeat (first | refine awp_seq ?_ | refine then_n ?_ | refine then_r ?_ | refine then_x ?_ | refine block_n ?_ | refine block_r ?_ | refine block_x ?_ | refine u_y ?_ | refine loop_r ?_ | refine loop_x ?_ | refine awp_region ?_ | refine awpL_nil ?_ | refine awpQL_nil ?_ | refine awp_block ?_ | refine awp_skip ?_ | refine awp_exit ?_ | refine awp_label ?_ | refine u_dT ?_ | refine u_d ?_ | refine u_l ?_ | refine u_o ?_ | refine u_q ?_ | refine u_lr ?_ | refine u_qr ?_ | refine u_ls ?_ | refine u_qs ?_ | refine u_t ?_ | refine u_f ?_ | refine v_s ?_ | refine v_o ?_ | refine v_on ?_ | refine v_og ?_ | refine v_q ?_ | refine v_sr ?_ | refine v_k ?_ | refine m_nil ?_)
            repeat (first | refine awp_seq ?_ | refine then_n ?_ | refine then_r ?_ | refine then_x ?_ | refine block_n ?_ | refine block_r ?_ | refine block_x ?_ | refine u_y ?_ | refine loop_r ?_ | refine loop_x ?_ | refine awp_region ?_ | refine awpL_nil ?_ | refine awpQL_nil ?_ | refine awp_block ?_ | refine awp_skip ?_ | refine awp_exit ?_ | refine awp_label ?_ | refine u_dT ?_ | refine u_d ?_ | ((first | apply c_l | apply c_q | apply c_lr | apply c_qr); (iterate 2 exact rfl); (focus (first | exact e8)); (iterate 2 exact rfl)) | (apply v_c; (iterate 4 exact rfl); (focus (first | exact e8)); (iterate 2 exact rfl)) | refine u_l ?_ | refine u_o ?_ | refine u_q ?_ | refine u_lr ?_ | refine u_qr ?_ | refine u_ls ?_ | refine u_qs ?_ | refine u_t ?_ | refine u_f ?_ | refine v_s ?_ | refine v_o ?_ | refine v_on ?_ | refine v_og ?_ | refine v_q ?_ | refine v_sr ?_ | refine v_k ?_ | refine m_nil ?_)
            refine loop_n (bel nx lp f x y, q', out ++ [(x : Int)], k - 1) ⟨hf1, hq2, hd1.1, by simp only []; omega, by simp only [List.length_append, List.length_singleton]; omega, by rw [← hr1]; exact i6⟩ ?_ ?_ (by simp only []; omega)
            · ((repeat (first | exact trivial | (refine ⟨?_, ?_⟩; (focus (first | rfl | (simp [lk, argsS, args0]; done) | (simp [lk, argsS, args0]; omega)))))))
            · simp [killH, keepH, memB]
      · rw [if_neg h0]
        rw [if_neg h0, if_neg h0, decide_eq_false h0] at e4
        refine hc_intro tabIs _ Try.func20 rfl rfl Try.ntmps20 rfl rfl rfl ?_ fun w0 ok0 XM XA anc => ?_
        · exact likeIn_nil
        repeat (first | refine v_w (t := 31) ?_ | refine awp_seq ?_ | refine then_n ?_ | refine then_r ?_ | refine then_x ?_ | refine block_n ?_ | refine block_r ?_ | refine block_x ?_ | refine u_y ?_ | refine loop_r ?_ | refine loop_x ?_ | refine awp_region ?_ | refine awpL_nil ?_ | refine awpQL_nil ?_ | refine awp_block ?_ | refine awp_skip ?_ | refine awp_exit ?_ | refine awp_label ?_ | refine u_dT ?_ | refine u_d ?_ | refine u_w (t := 31) ?_ | ((first | apply c_l | apply c_q | apply c_lr | apply c_qr); (iterate 2 exact rfl); (focus (first | exact e1 | exact e2 | exact e3)); (iterate 2 exact rfl)) | (apply v_c; (iterate 4 exact rfl); (focus (first | exact e1 | exact e2 | exact e3)); (iterate 2 exact rfl)) | refine u_l ?_ | refine u_o ?_ | refine u_q ?_ | refine u_lr ?_ | refine u_qr ?_ | refine u_ls ?_ | refine u_qs ?_ | refine u_t ?_ | refine u_f ?_ | refine v_s ?_ | refine v_o ?_ | refine v_on ?_ | refine v_og ?_ | refine v_q ?_ | refine v_sr ?_ | refine v_k ?_ | refine m_nil ?_)
        refine awp_loop (fun p : Unit => True) (fun p => [(2, .d (.int .i64 q)), (3, .d (.ptr (.agg [.int .i64 s, rows nx, ints lp]))), (10, .d (.int .u64 f0)), (11, .own 31)]) (fun p => [(31, .arr 2 1 [])]) (fun p => 0) () trivial ?_ rfl ?_
        · ((repeat (first | exact trivial | (refine ⟨?_, ?_⟩; (focus (first | rfl | (simp [lk, argsS, args0]; done) | (simp [lk, argsS, args0]; omega)))))))
        · intro _ _
          repeat (first | refine awp_seq ?_ | refine then_n ?_ | refine then_r ?_ | refine then_x ?_ | refine block_n ?_ | refine block_r ?_ | refine block_x ?_ | refine u_y ?_ | refine loop_r ?_ | refine loop_x ?_ | refine awp_region ?_ | refine awpL_nil ?_ | refine awpQL_nil ?_ | refine awp_block ?_ | refine awp_skip ?_ | refine awp_exit ?_ | refine awp_label ?_ | refine u_dT ?_ | refine u_d ?_ | ((first | apply c_l | apply c_q | apply c_lr | apply c_qr); (iterate 2 exact rfl); (focus (first | exact e4)); (iterate 2 exact rfl)) | (apply v_c; (iterate 4 exact rfl); (focus (first | exact e4)); (iterate 2 exact rfl)) | refine u_l ?_ | refine u_o ?_ | refine u_q ?_ | refine u_lr ?_ | refine u_qr ?_ | refine u_ls ?_ | refine u_qs ?_ | refine u_t ?_ | refine u_f ?_ | refine v_s ?_ | refine v_o ?_ | refine v_on ?_ | refine v_og ?_ | refine v_q ?_ | refine v_sr ?_ | refine v_k ?_ | refine m_nil ?_)
          refine awp_nilSlot 6 7777 2 1 rfl rfl rfl ?_
          (refine awp_ret ?_; (repeat (first | refine then_r ?_ | refine block_r ?_ | refine loop_r ?_)); refine u_rH [(7777, 30000)] ?_ ?_)
          · rfl
          · rfl
    · rw [if_neg hq]
      rw [decide_eq_false hq] at e3
      refine hc_intro tabIs _ Try.func20 rfl rfl Try.ntmps20 rfl rfl rfl ?_ fun w0 ok0 XM XA anc => ?_
      · exact likeIn_nil
      repeat (first | refine awp_seq ?_ | refine then_n ?_ | refine then_r ?_ | refine then_x ?_ | refine block_n ?_ | refine block_r ?_ | refine block_x ?_ | refine u_y ?_ | refine loop_r ?_ | refine loop_x ?_ | refine awp_region ?_ | refine awpL_nil ?_ | refine awpQL_nil ?_ | refine awp_block ?_ | refine awp_skip ?_ | refine awp_exit ?_ | refine awp_label ?_ | refine u_dT ?_ | refine u_d ?_ | ((first | apply c_l | apply c_q | apply c_lr | apply c_qr); (iterate 2 exact rfl); (focus (first | exact e1 | exact e3)); (iterate 2 exact rfl)) | (apply v_c; (iterate 4 exact rfl); (focus (first | exact e1 | exact e3)); (iterate 2 exact rfl)) | refine u_l ?_ | refine u_o ?_ | refine u_q ?_ | refine u_lr ?_ | refine u_qr ?_ | refine u_ls ?_ | refine u_qs ?_ | refine u_t ?_ | refine u_f ?_ | refine v_s ?_ | refine v_o ?_ | refine v_on ?_ | refine v_og ?_ | refine v_q ?_ | refine v_sr ?_ | refine v_k ?_ | refine m_nil ?_)
      refine awp_nilSlot 6 7777 2 1 rfl rfl rfl ?_
      (refine awp_ret ?_; (repeat (first | refine then_r ?_ | refine block_r ?_ | refine loop_r ?_)); refine u_rH [(7777, 30000)] ?_ ?_)
      · rfl
      · rfl
  · rw [if_neg hc]
    have ha : adC s nx lp l = 1 ∨ adC s nx lp l = 2 := by
      rcases adC_not hc with ⟨_, ha⟩ | ⟨_, _, ha⟩
      · exact .inl ha
      · exact .inr ha
    rcases ha with ha | ha
    · rw [ha] at e1 ⊢
      refine hc_intro tabIs _ Try.func20 rfl rfl Try.ntmps20 rfl rfl rfl ?_ fun w0 ok0 XM XA anc => ?_
      · exact likeIn_nil
      repeat (first | refine awp_seq ?_ | refine then_n ?_ | refine then_r ?_ | refine then_x ?_ | refine block_n ?_ | refine block_r ?_ | refine block_x ?_ | refine u_y ?_ | refine loop_r ?_ | refine loop_x ?_ | refine awp_region ?_ | refine awpL_nil ?_ | refine awpQL_nil ?_ | refine awp_block ?_ | refine awp_skip ?_ | refine awp_exit ?_ | refine awp_label ?_ | refine u_dT ?_ | refine u_d ?_ | ((first | apply c_l | apply c_q | apply c_lr | apply c_qr); (iterate 2 exact rfl); (focus (first | exact e1)); (iterate 2 exact rfl)) | (apply v_c; (iterate 4 exact rfl); (focus (first | exact e1)); (iterate 2 exact rfl)) | refine u_l ?_ | refine u_o ?_ | refine u_q ?_ | refine u_lr ?_ | refine u_qr ?_ | refine u_ls ?_ | refine u_qs ?_ | refine u_t ?_ | refine u_f ?_ | refine v_s ?_ | refine v_o ?_ | refine v_on ?_ | refine v_og ?_ | refine v_q ?_ | refine v_sr ?_ | refine v_k ?_ | refine m_nil ?_)
      refine awp_nilSlot 6 7777 2 1 rfl rfl rfl ?_
      (refine awp_ret ?_; (repeat (first | refine then_r ?_ | refine block_r ?_ | refine loop_r ?_)); refine u_rH [(7777, 30000)] ?_ ?_)
      · rfl
      · rfl
    · rw [ha] at e1 ⊢
      refine hc_intro tabIs _ Try.func20 rfl rfl Try.ntmps20 rfl rfl rfl ?_ fun w0 ok0 XM XA anc => ?_
      · exact likeIn_nil
      repeat (first | refine awp_seq ?_ | refine then_n ?_ | refine then_r ?_ | refine then_x ?_ | refine block_n ?_ | refine block_r ?_ | refine block_x ?_ | refine u_y ?_ | refine loop_r ?_ | refine loop_x ?_ | refine awp_region ?_ | refine awpL_nil ?_ | refine awpQL_nil ?_ | refine awp_block ?_ | refine awp_skip ?_ | refine awp_exit ?_ | refine awp_label ?_ | refine u_dT ?_ | refine u_d ?_ | ((first | apply c_l | apply c_q | apply c_lr | apply c_qr); (iterate 2 exact rfl); (focus (first | exact e1)); (iterate 2 exact rfl)) | (apply v_c; (iterate 4 exact rfl); (focus (first | exact e1)); (iterate 2 exact rfl)) | refine u_l ?_ | refine u_o ?_ | refine u_q ?_ | refine u_lr ?_ | refine u_qr ?_ | refine u_ls ?_ | refine u_qs ?_ | refine u_t ?_ | refine u_f ?_ | refine v_s ?_ | refine v_o ?_ | refine v_on ?_ | refine v_og ?_ | refine v_q ?_ | refine v_sr ?_ | refine v_k ?_ | refine m_nil ?_)
      refine awp_nilSlot 6 7777 2 1 rfl rfl rfl ?_
      (refine awp_ret ?_; (repeat (first | refine then_r ?_ | refine block_r ?_ | refine loop_r ?_)); refine u_rH [(7777, 30000)] ?_ ?_)
      · rfl
      · rfl

theorem rnD_len {s q : Int} {nx : List (List Int)} {lp l : List Int} : (rnD s nx lp l q).1.length ≤ 1024 := by
  unfold rnD
  split
  · rename_i hc
    obtain ⟨v, _⟩ := adC_facts hc
    have hs := v.s1
    split
    · split
      · have h1 := runA_len (s := s) (nx := nx) (lp := lp) (dep s nx lp (bitsL 0 l)).toNat (bitsL 0 l) q []
        have hdr := dep_range (s := s) (nx := nx) (lp := lp) (f := bitsL 0 l)
        have hpw := pow_le (m := s.toNat) (by omega)
        simp only [List.length_nil] at h1
        show (runA _ _ _ _ _ _ _).1.length ≤ 1024
        omega
      · simp
    · simp
  · simp

theorem law_ExactAdaptiveRun {s q : Int} {nx : List (List Int)} {lp l : List Int} (g1 : I64 s) (h1 : RowsOk nx) (h2 : IntsOk lp) (h3 : IntsOk l) (g5 : I64 q) :
    AC Try.prog 5 [.agg [.int .i64 s, rows nx, ints lp], ints l, .int .i64 q] (.bool true) := by
  have hl := h2.2
  have hl3 := h3.2
  have hle : (List.map (D.int IntKind.i64) l).length = l.length := by simp
  have hb : (0 : Int) ≤ 1048576 ∧ (1048576 : Int) ≤ 1048576 := by omega
  by_cases hlen : 1048576 < l.length
  · refine ac_intro tabIs _ Try.func5 rfl rfl Try.ntmps5 rfl rfl fun w0 ok0 => ?_
    repeat (first | refine awp_seq ?_ | refine then_n ?_ | refine then_r ?_ | refine then_x ?_ | refine block_n ?_ | refine block_r ?_ | refine block_x ?_ | refine u_y ?_ | refine loop_r ?_ | refine loop_x ?_ | refine awp_region ?_ | refine awpL_nil ?_ | refine awpQL_nil ?_ | refine awp_block ?_ | refine awp_skip ?_ | refine awp_exit ?_ | refine awp_label ?_ | refine u_dT ?_ | refine u_d ?_ | refine u_l ?_ | refine u_o ?_ | refine u_q ?_ | refine u_lr ?_ | refine u_qr ?_ | refine u_ls ?_ | refine u_qs ?_ | refine u_t ?_ | refine u_f ?_ | refine v_s ?_ | refine v_o ?_ | refine v_on ?_ | refine v_og ?_ | refine v_q ?_ | refine v_sr ?_ | refine v_k ?_ | refine m_nil ?_)
    (refine awp_ret ?_; (repeat (first | refine then_r ?_ | refine block_r ?_ | refine loop_r ?_)); apply ret_ok (.inr rfl); (focus exact rfl))
    rfl
  · have e1 := laws_szLit (s := s) (nx := nx) (lp := lp) (left := 1048576) h1 hl hb
    by_cases hc : szLitF nx lp 1048576 < 0
    · refine ac_intro tabIs _ Try.func5 rfl rfl Try.ntmps5 rfl rfl fun w0 ok0 => ?_
      repeat (first | refine awp_seq ?_ | refine then_n ?_ | refine then_r ?_ | refine then_x ?_ | refine block_n ?_ | refine block_r ?_ | refine block_x ?_ | refine u_y ?_ | refine loop_r ?_ | refine loop_x ?_ | refine awp_region ?_ | refine awpL_nil ?_ | refine awpQL_nil ?_ | refine awp_block ?_ | refine awp_skip ?_ | refine awp_exit ?_ | refine awp_label ?_ | refine u_dT ?_ | refine u_d ?_ | ((first | apply c_l | apply c_q | apply c_lr | apply c_qr); (iterate 2 exact rfl); (focus (first | exact e1)); (iterate 2 exact rfl)) | (apply v_c; (iterate 4 exact rfl); (focus (first | exact e1)); (iterate 2 exact rfl)) | refine u_l ?_ | refine u_o ?_ | refine u_q ?_ | refine u_lr ?_ | refine u_qr ?_ | refine u_ls ?_ | refine u_qs ?_ | refine u_t ?_ | refine u_f ?_ | refine v_s ?_ | refine v_o ?_ | refine v_on ?_ | refine v_og ?_ | refine v_q ?_ | refine v_sr ?_ | refine v_k ?_ | refine m_nil ?_)
      (refine awp_ret ?_; (repeat (first | refine then_r ?_ | refine block_r ?_ | refine loop_r ?_)); apply ret_ok (.inr rfl); (focus exact rfl))
      rfl
    · obtain ⟨a1, a2, a3⟩ := szLitF_ok hc
      have t1 := laws_toLit (s := s) a1 a2 a3
      have t2 := laws_toInt64S (ns := l) (by omega)
      have t3 := laws_toLitH (s := s) a1 a2 a3
      have t4 := laws_toInt64SH (ns := l) (by omega)
      have f1 := spec_AdaptiveRun (s := s) (q := q) h1 hl hl3
      have f2 := impl_AdaptiveRunH (s := s) (q := q) h1 hl hl3
      have f3 := impl_AdaptiveRunH (s := s) (q := q) h1 hl hl3
      have hbl := rnD_len (s := s) (q := q) (nx := nx) (lp := lp) (l := l)
      rw [← rws_dat] at f3
      have htot := tot_bound a2
      have htb : tot nx ≤ 1048576 * 1048576 := Nat.le_trans htot (Nat.mul_le_mul_right _ a1)
      have m1 := laws_markLit (s := s) (nx := nx) (lp := lp) (k := 1) (by omega) (by omega) (by omega)
      have m2 := laws_markInt64S (xs := l) (k := 1 + tot nx + lp.length) (by omega) (by omega)
      generalize rnD s nx lp l q = o at *
      have m3 := laws_markInt64S (xs := o.1) (k := 1) (by omega) (by omega)
      have d3 := laws_heldInt64S (n := o.1.length) (k := 1) (by omega) (by omega)
      have q1 : AC Try.prog 16 [ints o.1, ints o.1] (.bool true) := by have := laws_eqInt64S (a := o.1) (b := o.1) (by omega) (by omega); simpa using this
      have q2 : AC Try.prog 16 [ints l, ints l] (.bool true) := by have := laws_eqInt64S (a := l) (b := l) (by omega) (by omega); simpa using this
      have q3 : AC Try.prog 15 [.agg [.int .i64 s, .lst ((rws nx).map D.lst), ints lp], .agg [.int .i64 s, rows nx, ints lp]] (.bool true) := by
        have := laws_eqLit (s := s) (s' := s) (nx := nx) (nx' := nx) (lp := lp) (lp' := lp) h1 h1 hl hl
        rw [rws_dat]
        simpa using this
      generalize szLitF nx lp 1048576 = left at *
      refine ac_intro tabIs _ Try.func5 rfl rfl Try.ntmps5 rfl rfl fun w0 ok0 => ?_
      repeat (first | refine awp_seq ?_ | refine then_n ?_ | refine then_r ?_ | refine then_x ?_ | refine block_n ?_ | refine block_r ?_ | refine block_x ?_ | refine u_y ?_ | refine loop_r ?_ | refine loop_x ?_ | refine awp_region ?_ | refine awpL_nil ?_ | refine awpQL_nil ?_ | refine awp_block ?_ | refine awp_skip ?_ | refine awp_exit ?_ | refine awp_label ?_ | refine u_dT ?_ | refine u_d ?_ | ((first | apply c_l | apply c_q | apply c_lr | apply c_qr); (iterate 2 exact rfl); (focus (first | exact e1)); (iterate 2 exact rfl)) | (apply v_c; (iterate 4 exact rfl); (focus (first | exact e1)); (iterate 2 exact rfl)) | refine u_l ?_ | refine u_o ?_ | refine u_q ?_ | refine u_lr ?_ | refine u_qr ?_ | refine u_ls ?_ | refine u_qs ?_ | refine u_t ?_ | refine u_f ?_ | refine v_s ?_ | refine v_o ?_ | refine v_on ?_ | refine v_og ?_ | refine v_q ?_ | refine v_sr ?_ | refine v_k ?_ | refine m_nil ?_)
      (apply c_l; (iterate 2 exact rfl); (focus exact t1); (iterate 2 exact rfl))
      repeat (first | refine awp_seq ?_ | refine then_n ?_ | refine then_r ?_ | refine then_x ?_ | refine block_n ?_ | refine block_r ?_ | refine block_x ?_ | refine u_y ?_ | refine loop_r ?_ | refine loop_x ?_ | refine awp_region ?_ | refine awpL_nil ?_ | refine awpQL_nil ?_ | refine awp_block ?_ | refine awp_skip ?_ | refine awp_exit ?_ | refine awp_label ?_ | refine u_dT ?_ | refine u_d ?_ | refine u_l ?_ | refine u_o ?_ | refine u_q ?_ | refine u_lr ?_ | refine u_qr ?_ | refine u_ls ?_ | refine u_qs ?_ | refine u_t ?_ | refine u_f ?_ | refine v_s ?_ | refine v_o ?_ | refine v_on ?_ | refine v_og ?_ | refine v_q ?_ | refine v_sr ?_ | refine v_k ?_ | refine m_nil ?_)
      (apply c_l; (iterate 2 exact rfl); (focus exact t2); (iterate 2 exact rfl))
      repeat (first | refine v_w (t := 11) ?_ | refine awp_seq ?_ | refine then_n ?_ | refine then_r ?_ | refine then_x ?_ | refine block_n ?_ | refine block_r ?_ | refine block_x ?_ | refine u_y ?_ | refine loop_r ?_ | refine loop_x ?_ | refine awp_region ?_ | refine awpL_nil ?_ | refine awpQL_nil ?_ | refine awp_block ?_ | refine awp_skip ?_ | refine awp_exit ?_ | refine awp_label ?_ | refine u_dT ?_ | refine u_d ?_ | refine u_w (t := 11) ?_ | ((first | apply c_l | apply c_q | apply c_lr | apply c_qr); (iterate 2 exact rfl); (focus (first | exact f1)); (iterate 2 exact rfl)) | (apply v_c; (iterate 4 exact rfl); (focus (first | exact f1)); (iterate 2 exact rfl)) | refine u_l ?_ | refine u_o ?_ | refine u_q ?_ | refine u_lr ?_ | refine u_qr ?_ | refine u_ls ?_ | refine u_qs ?_ | refine u_t ?_ | refine u_f ?_ | refine v_s ?_ | refine v_o ?_ | refine v_on ?_ | refine v_og ?_ | refine v_q ?_ | refine v_sr ?_ | refine v_k ?_ | refine m_nil ?_)
      refine hcl [] [(30000, 500), (30001, 501)] t3 ?_
      repeat (first | refine awp_seq ?_ | refine then_n ?_ | refine then_r ?_ | refine then_x ?_ | refine block_n ?_ | refine block_r ?_ | refine block_x ?_ | refine u_y ?_ | refine loop_r ?_ | refine loop_x ?_ | refine awp_region ?_ | refine awpL_nil ?_ | refine awpQL_nil ?_ | refine awp_block ?_ | refine awp_skip ?_ | refine awp_exit ?_ | refine awp_label ?_ | refine u_dT ?_ | refine u_d ?_ | refine u_l ?_ | refine u_o ?_ | refine u_q ?_ | refine u_lr ?_ | refine u_qr ?_ | refine u_ls ?_ | refine u_qs ?_ | refine u_t ?_ | refine u_f ?_ | refine v_s ?_ | refine v_o ?_ | refine v_on ?_ | refine v_og ?_ | refine v_q ?_ | refine v_sr ?_ | refine v_k ?_ | refine m_nil ?_)
      refine hcl [] [(30000, 502)] t4 ?_
      repeat (first | refine awp_seq ?_ | refine then_n ?_ | refine then_r ?_ | refine then_x ?_ | refine block_n ?_ | refine block_r ?_ | refine block_x ?_ | refine u_y ?_ | refine loop_r ?_ | refine loop_x ?_ | refine awp_region ?_ | refine awpL_nil ?_ | refine awpQL_nil ?_ | refine awp_block ?_ | refine awp_skip ?_ | refine awp_exit ?_ | refine awp_label ?_ | refine u_dT ?_ | refine u_d ?_ | refine u_l ?_ | refine u_o ?_ | refine u_q ?_ | refine u_lr ?_ | refine u_qr ?_ | refine u_ls ?_ | refine u_qs ?_ | refine u_t ?_ | refine u_f ?_ | refine v_s ?_ | refine v_o ?_ | refine v_on ?_ | refine v_og ?_ | refine v_q ?_ | refine v_sr ?_ | refine v_k ?_ | refine m_nil ?_)
      refine hlend (xs := [.agg [.int .i64 s, .lst ((rws nx).map D.lst), ints lp], ints l, .int .i64 q]) (cap := []) [(30000, 503)] f3 ?_ ?_ ?_
      · intro p hp
        simp at hp
        subst hp
        intro x hx
        simp at hx
        obtain ⟨a, _, rfl⟩ := hx
        rfl
      · exact ⟨trivial, rfl, rfl, trivial⟩
      repeat (first | refine awp_seq ?_ | refine then_n ?_ | refine then_r ?_ | refine then_x ?_ | refine block_n ?_ | refine block_r ?_ | refine block_x ?_ | refine u_y ?_ | refine loop_r ?_ | refine loop_x ?_ | refine awp_region ?_ | refine awpL_nil ?_ | refine awpQL_nil ?_ | refine awp_block ?_ | refine awp_skip ?_ | refine awp_exit ?_ | refine awp_label ?_ | refine u_dT ?_ | refine u_d ?_ | ((first | apply c_l | apply c_q | apply c_lr | apply c_qr); (iterate 2 exact rfl); (focus (first | exact q1 | exact q2 | exact q3 | exact t1 | exact t2)); (iterate 2 exact rfl)) | (apply v_c; (iterate 4 exact rfl); (focus (first | exact q1 | exact q2 | exact q3 | exact t1 | exact t2)); (iterate 2 exact rfl)) | refine u_l ?_ | refine u_o ?_ | refine u_q ?_ | refine u_lr ?_ | refine u_qr ?_ | refine u_ls ?_ | refine u_qs ?_ | refine u_t ?_ | refine u_f ?_ | refine v_s ?_ | refine v_o ?_ | refine v_on ?_ | refine v_og ?_ | refine v_q ?_ | refine v_sr ?_ | refine v_k ?_ | refine m_nil ?_)
      refine u_sl ?_ ?_
      · intro hb; exact absurd hb (by simp)
      intro _
      repeat (first | refine awp_seq ?_ | refine then_n ?_ | refine then_r ?_ | refine then_x ?_ | refine block_n ?_ | refine block_r ?_ | refine block_x ?_ | refine u_y ?_ | refine loop_r ?_ | refine loop_x ?_ | refine awp_region ?_ | refine awpL_nil ?_ | refine awpQL_nil ?_ | refine awp_block ?_ | refine awp_skip ?_ | refine awp_exit ?_ | refine awp_label ?_ | refine u_dT ?_ | refine u_d ?_ | ((first | apply c_l | apply c_q | apply c_lr | apply c_qr); (iterate 2 exact rfl); (focus (first | exact q1 | exact q2 | exact q3 | exact t1 | exact t2)); (iterate 2 exact rfl)) | (apply v_c; (iterate 4 exact rfl); (focus (first | exact q1 | exact q2 | exact q3 | exact t1 | exact t2)); (iterate 2 exact rfl)) | refine u_l ?_ | refine u_o ?_ | refine u_q ?_ | refine u_lr ?_ | refine u_qr ?_ | refine u_ls ?_ | refine u_qs ?_ | refine u_t ?_ | refine u_f ?_ | refine v_s ?_ | refine v_o ?_ | refine v_on ?_ | refine v_og ?_ | refine v_q ?_ | refine v_sr ?_ | refine v_k ?_ | refine m_nil ?_)
      refine hcl [(500, 10000), (501, 10001)] [(10000, 500), (10001, 501)] m1 ?_
      repeat (first | refine awp_seq ?_ | refine then_n ?_ | refine then_r ?_ | refine then_x ?_ | refine block_n ?_ | refine block_r ?_ | refine block_x ?_ | refine u_y ?_ | refine loop_r ?_ | refine loop_x ?_ | refine awp_region ?_ | refine awpL_nil ?_ | refine awpQL_nil ?_ | refine awp_block ?_ | refine awp_skip ?_ | refine awp_exit ?_ | refine awp_label ?_ | refine u_dT ?_ | refine u_d ?_ | refine u_l ?_ | refine u_o ?_ | refine u_q ?_ | refine u_lr ?_ | refine u_qr ?_ | refine u_ls ?_ | refine u_qs ?_ | refine u_t ?_ | refine u_f ?_ | refine v_s ?_ | refine v_o ?_ | refine v_on ?_ | refine v_og ?_ | refine v_q ?_ | refine v_sr ?_ | refine v_k ?_ | refine m_nil ?_)
      refine hcl [(502, 10000)] [(10000, 502)] m2 ?_
      repeat (first | refine awp_seq ?_ | refine then_n ?_ | refine then_r ?_ | refine then_x ?_ | refine block_n ?_ | refine block_r ?_ | refine block_x ?_ | refine u_y ?_ | refine loop_r ?_ | refine loop_x ?_ | refine awp_region ?_ | refine awpL_nil ?_ | refine awpQL_nil ?_ | refine awp_block ?_ | refine awp_skip ?_ | refine awp_exit ?_ | refine awp_label ?_ | refine u_dT ?_ | refine u_d ?_ | ((first | apply c_l | apply c_q | apply c_lr | apply c_qr); (iterate 2 exact rfl); (focus (first | exact q1)); (iterate 2 exact rfl)) | (apply v_c; (iterate 4 exact rfl); (focus (first | exact q1)); (iterate 2 exact rfl)) | refine u_l ?_ | refine u_o ?_ | refine u_q ?_ | refine u_lr ?_ | refine u_qr ?_ | refine u_ls ?_ | refine u_qs ?_ | refine u_t ?_ | refine u_f ?_ | refine v_s ?_ | refine v_o ?_ | refine v_on ?_ | refine v_og ?_ | refine v_q ?_ | refine v_sr ?_ | refine v_k ?_ | refine m_nil ?_)
      refine u_sl ?_ ?_
      · intro hb; exact absurd hb (by simp)
      intro _
      repeat (first | refine awp_seq ?_ | refine then_n ?_ | refine then_r ?_ | refine then_x ?_ | refine block_n ?_ | refine block_r ?_ | refine block_x ?_ | refine u_y ?_ | refine loop_r ?_ | refine loop_x ?_ | refine awp_region ?_ | refine awpL_nil ?_ | refine awpQL_nil ?_ | refine awp_block ?_ | refine awp_skip ?_ | refine awp_exit ?_ | refine awp_label ?_ | refine u_dT ?_ | refine u_d ?_ | ((first | apply c_l | apply c_q | apply c_lr | apply c_qr); (iterate 2 exact rfl); (focus (first | exact q1)); (iterate 2 exact rfl)) | (apply v_c; (iterate 4 exact rfl); (focus (first | exact q1)); (iterate 2 exact rfl)) | refine u_l ?_ | refine u_o ?_ | refine u_q ?_ | refine u_lr ?_ | refine u_qr ?_ | refine u_ls ?_ | refine u_qs ?_ | refine u_t ?_ | refine u_f ?_ | refine v_s ?_ | refine v_o ?_ | refine v_on ?_ | refine v_og ?_ | refine v_q ?_ | refine v_sr ?_ | refine v_k ?_ | refine m_nil ?_)
      refine hcl [(503, 10000)] [(10000, 503)] m3 ?_
      repeat (first | refine awp_seq ?_ | refine then_n ?_ | refine then_r ?_ | refine then_x ?_ | refine block_n ?_ | refine block_r ?_ | refine block_x ?_ | refine u_y ?_ | refine loop_r ?_ | refine loop_x ?_ | refine awp_region ?_ | refine awpL_nil ?_ | refine awpQL_nil ?_ | refine awp_block ?_ | refine awp_skip ?_ | refine awp_exit ?_ | refine awp_label ?_ | refine u_dT ?_ | refine u_d ?_ | ((first | apply c_l | apply c_q | apply c_lr | apply c_qr); (iterate 2 exact rfl); (focus (first | exact d3)); (iterate 2 exact rfl)) | (apply v_c; (iterate 4 exact rfl); (focus (first | exact d3)); (iterate 2 exact rfl)) | refine u_l ?_ | refine u_o ?_ | refine u_q ?_ | refine u_lr ?_ | refine u_qr ?_ | refine u_ls ?_ | refine u_qs ?_ | refine u_t ?_ | refine u_f ?_ | refine v_s ?_ | refine v_o ?_ | refine v_on ?_ | refine v_og ?_ | refine v_q ?_ | refine v_sr ?_ | refine v_k ?_ | refine m_nil ?_)
      (apply c_l; (iterate 2 exact rfl); (focus exact t1); (iterate 2 exact rfl))
      repeat (first | refine awp_seq ?_ | refine then_n ?_ | refine then_r ?_ | refine then_x ?_ | refine block_n ?_ | refine block_r ?_ | refine block_x ?_ | refine u_y ?_ | refine loop_r ?_ | refine loop_x ?_ | refine awp_region ?_ | refine awpL_nil ?_ | refine awpQL_nil ?_ | refine awp_block ?_ | refine awp_skip ?_ | refine awp_exit ?_ | refine awp_label ?_ | refine u_dT ?_ | refine u_d ?_ | refine u_l ?_ | refine u_o ?_ | refine u_q ?_ | refine u_lr ?_ | refine u_qr ?_ | refine u_ls ?_ | refine u_qs ?_ | refine u_t ?_ | refine u_f ?_ | refine v_s ?_ | refine v_o ?_ | refine v_on ?_ | refine v_og ?_ | refine v_q ?_ | refine v_sr ?_ | refine v_k ?_ | refine m_nil ?_)
      (apply c_l; (iterate 2 exact rfl); (focus exact t2); (iterate 2 exact rfl))
      repeat (first | refine awp_seq ?_ | refine then_n ?_ | refine then_r ?_ | refine then_x ?_ | refine block_n ?_ | refine block_r ?_ | refine block_x ?_ | refine u_y ?_ | refine loop_r ?_ | refine loop_x ?_ | refine awp_region ?_ | refine awpL_nil ?_ | refine awpQL_nil ?_ | refine awp_block ?_ | refine awp_skip ?_ | refine awp_exit ?_ | refine awp_label ?_ | refine u_dT ?_ | refine u_d ?_ | refine u_l ?_ | refine u_o ?_ | refine u_q ?_ | refine u_lr ?_ | refine u_qr ?_ | refine u_ls ?_ | refine u_qs ?_ | refine u_t ?_ | refine u_f ?_ | refine v_s ?_ | refine v_o ?_ | refine v_on ?_ | refine v_og ?_ | refine v_q ?_ | refine v_sr ?_ | refine v_k ?_ | refine m_nil ?_)
      refine hcl [] [(30000, 504)] f2 ?_
      repeat (first | refine awp_seq ?_ | refine then_n ?_ | refine then_r ?_ | refine then_x ?_ | refine block_n ?_ | refine block_r ?_ | refine block_x ?_ | refine u_y ?_ | refine loop_r ?_ | refine loop_x ?_ | refine awp_region ?_ | refine awpL_nil ?_ | refine awpQL_nil ?_ | refine awp_block ?_ | refine awp_skip ?_ | refine awp_exit ?_ | refine awp_label ?_ | refine u_dT ?_ | refine u_d ?_ | ((first | apply c_l | apply c_q | apply c_lr | apply c_qr); (iterate 2 exact rfl); (focus (first | exact q1 | exact d3)); (iterate 2 exact rfl)) | (apply v_c; (iterate 4 exact rfl); (focus (first | exact q1 | exact d3)); (iterate 2 exact rfl)) | refine u_l ?_ | refine u_o ?_ | refine u_q ?_ | refine u_lr ?_ | refine u_qr ?_ | refine u_ls ?_ | refine u_qs ?_ | refine u_t ?_ | refine u_f ?_ | refine v_s ?_ | refine v_o ?_ | refine v_on ?_ | refine v_og ?_ | refine v_q ?_ | refine v_sr ?_ | refine v_k ?_ | refine m_nil ?_)
      refine u_sl ?_ ?_
      · intro hb; exact absurd hb (by simp)
      intro _
      repeat (first | refine awp_seq ?_ | refine then_n ?_ | refine then_r ?_ | refine then_x ?_ | refine block_n ?_ | refine block_r ?_ | refine block_x ?_ | refine u_y ?_ | refine loop_r ?_ | refine loop_x ?_ | refine awp_region ?_ | refine awpL_nil ?_ | refine awpQL_nil ?_ | refine awp_block ?_ | refine awp_skip ?_ | refine awp_exit ?_ | refine awp_label ?_ | refine u_dT ?_ | refine u_d ?_ | ((first | apply c_l | apply c_q | apply c_lr | apply c_qr); (iterate 2 exact rfl); (focus (first | exact q1 | exact d3)); (iterate 2 exact rfl)) | (apply v_c; (iterate 4 exact rfl); (focus (first | exact q1 | exact d3)); (iterate 2 exact rfl)) | refine u_l ?_ | refine u_o ?_ | refine u_q ?_ | refine u_lr ?_ | refine u_qr ?_ | refine u_ls ?_ | refine u_qs ?_ | refine u_t ?_ | refine u_f ?_ | refine v_s ?_ | refine v_o ?_ | refine v_on ?_ | refine v_og ?_ | refine v_q ?_ | refine v_sr ?_ | refine v_k ?_ | refine m_nil ?_)
      (refine awp_ret ?_; (repeat (first | refine then_r ?_ | refine block_r ?_ | refine loop_r ?_)); apply ret_ok (.inr rfl); (focus exact rfl))
      rfl

end Go.Proofs.Ytkomkhigcdkpdaa
