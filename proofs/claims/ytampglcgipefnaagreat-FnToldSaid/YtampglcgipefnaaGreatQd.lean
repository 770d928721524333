/- The law of what is told: the state of the machine is one of those that are told. No condition. -/
import Derived.Test.YtampglcgipefnaaGreatQb
import Derived.Test.YtampglcgipefnaaGreatOx
import Derived.Test.YtampglcgipefnaaGreatOn
import Derived.Test.YtampglcgipefnaaGreatFwY
namespace Go.Proofs.YtampglcgipefnaaGreat
open Go
attribute [local irreducible] awp awpL awpQL awpQ awpM pWalk Qt AC thenQ blockQ loopQ OpTo
set_option linter.unusedVariables false
set_option linter.unusedSimpArgs false
set_option maxHeartbeats 2000000
attribute [local irreducible] HC

theorem ask_of {s st : Int} {nx : List (List Int)} {lp : List Int} {ds : List (Int × Int)} (hv : litOk s nx lp = true) (hst : 0 ≤ st ∧ st < s) (hd : ∀ p ∈ ds, vdeed p.1 p.2 = true) (hl : ds.length ≤ 400) : askC s st nx lp ds = 0 := by
  unfold askC
  rw [if_pos hv, if_pos (List.all_eq_true.2 hd), if_pos ⟨hst.1, hst.2, hl⟩]
theorem rowsOk_of {s : Int} {nx : List (List Int)} {lp : List Int} (v : LV s nx lp) : RowsOk nx := by
  have hs := v.s1
  have hn := v.n1
  refine ⟨fun ns h => ⟨fun q hq => ?_, ?_⟩, by omega⟩
  · have := (v.nx ns h).2 q hq
    unfold I64
    omega
  · have := (v.nx ns h).1
    omega
theorem toldD_len {s : Int} {nx : List (List Int)} {lp : List Int} {d : Dsk} (hv : litOk s nx lp = true) (h : DskOk s nx d) : (toldD nx d).length ≤ 10 := by
  have v := lv_of hv
  unfold toldD
  rw [tN_toldF]
  have k := tN_ok v.nx (d.ord.drop d.sure.toNat) _ _ (fun l hl => h.ord l (List.mem_of_mem_drop hl)) h.bel h.ris h.bel h.ris
  exact ris_le10 v.s1.2 k.2.2.1 k.2.2.2
theorem impl_LineAfter {s st : Int} {nx : List (List Int)} {lp : List Int} {ds : List (Int × Int)} (hv : litOk s nx lp = true) (hst : 0 ≤ st ∧ st < s) (hd : ∀ p ∈ ds, vdeed p.1 p.2 = true) (hl : ds.length ≤ 400) :
    AC Tryz.prog 18 [ltD s nx lp, .int .i64 st, deedsD ds] (.tup [.agg (lnL (runF s nx lp (ln0 s st) ds)), .int .i64 (doneF (codesF s nx lp (ln0 s st) ds) : Nat), .int .i64 0]) := by
  have v := lv_of hv
  have hs := v.s1
  have := impl_LineAfterH (s := s) (st := st) (nx := nx) (lp := lp) (ds := ds) (rowsOk_of v) (by have := v.lp; omega) (by omega)
  unfold laD at this
  rw [if_pos (ask_of hv hst hd hl)] at this
  exact ac_of_hc this rfl
theorem impl_ToldAfter {s st : Int} {nx : List (List Int)} {lp : List Int} {ds : List (Int × Int)} (hv : litOk s nx lp = true) (hst : 0 ≤ st ∧ st < s) (hd : ∀ p ∈ ds, vdeed p.1 p.2 = true) (hl : ds.length ≤ 400) :
    AC Tryz.prog 25 [ltD s nx lp, .int .i64 st, deedsD ds] (.tup [ints (toldD nx (runF s nx lp (ln0 s st) ds).d), .bool (decide ((runF s nx lp (ln0 s st) ds).d.life = (runF s nx lp (ln0 s st) ds).life)), .int .i64 0]) := by
  have v := lv_of hv
  have := impl_ToldAfterH (s := s) (st := st) (nx := nx) (lp := lp) (ds := ds) (rowsOk_of v) (by have := v.lp; have := v.s1; omega) (by omega)
  unfold tlD at this
  rw [if_pos (ask_of hv hst hd hl)] at this
  exact ac_of_hc this rfl
theorem spec_ToldAfterV {s st : Int} {nx : List (List Int)} {lp : List Int} {ds : List (Int × Int)} (hv : litOk s nx lp = true) (hst : 0 ≤ st ∧ st < s) (hd : ∀ p ∈ ds, vdeed p.1 p.2 = true) (hl : ds.length ≤ 400) :
    AC Tryz.prog 24 [ltD s nx lp, .int .i64 st, deedsD ds] (.tup [ints (toldD nx (runF s nx lp (ln0 s st) ds).d), .bool (decide ((runF s nx lp (ln0 s st) ds).d.life = (runF s nx lp (ln0 s st) ds).life)), .int .i64 0]) := by
  have v := lv_of hv
  have := spec_ToldAfter (s := s) (st := st) (nx := nx) (lp := lp) (ds := ds) (rowsOk_of v) (by have := v.lp; have := v.s1; omega) (by omega)
  unfold tlD at this
  rw [if_pos (ask_of hv hst hd hl)] at this
  exact this

theorem law_FnTold {code more : List Int} (hb : BytesOk code) (hm : BytesOk more) : AC Tryz.prog 7 [u8s code, u8s more] (.bool true) := by
  have eL := laws_a2Long (a := code) (b := more)
  by_cases hl : (decide (3000 < code.length) || decide (3000 < more.length)) = true
  · rw [hl] at eL
    refine ac_intro tabIs _ Tryz.func7 rfl rfl Tryz.ntmps7 rfl rfl fun w0 ok0 => ?_
    repeat (first | refine awp_seq ?_ | refine then_n ?_ | refine then_r ?_ | refine then_x ?_ | refine block_n ?_ | refine block_r ?_ | refine block_x ?_ | refine u_y ?_ | refine loop_r ?_ | refine loop_x ?_ | refine awp_region ?_ | refine awpL_nil ?_ | refine awpQL_nil ?_ | refine awp_block ?_ | refine awp_skip ?_ | refine awp_exit ?_ | refine awp_label ?_ | refine u_dT ?_ | refine u_d ?_ | ((first | apply c_l | apply c_q | apply c_lr | apply c_qr); (iterate 2 exact rfl); (focus (first | exact eL)); (iterate 2 exact rfl)) | (apply v_c; (iterate 4 exact rfl); (focus (first | exact eL)); (iterate 2 exact rfl)) | refine u_l ?_ | refine u_o ?_ | refine u_q ?_ | refine u_lr ?_ | refine u_qr ?_ | refine u_ls ?_ | refine u_qs ?_ | refine u_t ?_ | refine u_f ?_ | refine v_s ?_ | refine v_o ?_ | refine v_on ?_ | refine v_og ?_ | refine v_q ?_ | refine v_sr ?_ | refine v_k ?_ | refine m_nil ?_)
    (refine awp_ret ?_; (repeat (first | refine then_r ?_ | refine block_r ?_ | refine loop_r ?_)); apply ret_ok (.inr rfl); (focus exact rfl))
    rfl
  · rw [Bool.not_eq_true] at hl
    rw [hl] at eL
    have eA := spec_A2Lit hb
    have hv := drawn_ok hb
    generalize (drA code ⟨0, 0⟩).1 = s at *
    generalize (drA code ⟨0, 0⟩).2.1 = nx at *
    generalize (drP code ⟨0, 0⟩).1 = lp at *
    have v := lv_of hv
    have hs1 := v.s1
    have eT := laws_a2At (b := more) (n := s) hm (by omega)
    have hst := atV_range (b := more) (n := s) (by omega)
    generalize atV more s = st at *
    have eD := spec_A2Deeds (s := s) (st := st) (nx := nx) (lp := lp) hm hv hst
    obtain ⟨hdl, hdv⟩ := dsV_ok (code := more) (s := s) (st := st) (nx := nx) (lp := lp) hm hv hst
    generalize dsV more s st nx lp = ds at *
    have hle : (ds.map deedD).length = ds.length := by simp
    have hel : elsOk 2 (ds.map deedD) = true := elsOk_of fun y hy => by
      obtain ⟨p, _, rfl⟩ := List.mem_map.1 hy
      exact ⟨rfl, rfl⟩
    unfold ltD deedsD at *
    refine ac_intro tabIs _ Tryz.func7 rfl rfl Tryz.ntmps7 rfl rfl fun w0 ok0 => ?_
    repeat (first | refine awp_seq ?_ | refine then_n ?_ | refine then_r ?_ | refine then_x ?_ | refine block_n ?_ | refine block_r ?_ | refine block_x ?_ | refine u_y ?_ | refine loop_r ?_ | refine loop_x ?_ | refine awp_region ?_ | refine awpL_nil ?_ | refine awpQL_nil ?_ | refine awp_block ?_ | refine awp_skip ?_ | refine awp_exit ?_ | refine awp_label ?_ | refine u_dT ?_ | refine u_d ?_ | ((first | apply c_l | apply c_q | apply c_lr | apply c_qr); (iterate 2 exact rfl); (focus (first | exact eL | exact eA | exact eT | exact eD)); (iterate 2 exact rfl)) | (apply v_c; (iterate 4 exact rfl); (focus (first | exact eL | exact eA | exact eT | exact eD)); (iterate 2 exact rfl)) | refine u_l ?_ | refine u_o ?_ | refine u_q ?_ | refine u_lr ?_ | refine u_qr ?_ | refine u_ls ?_ | refine u_qs ?_ | refine u_t ?_ | refine u_f ?_ | refine v_s ?_ | refine v_o ?_ | refine v_on ?_ | refine v_og ?_ | refine v_q ?_ | refine v_sr ?_ | refine v_k ?_ | refine m_nil ?_)
    refine awp_loop (fun _ : Nat => True) (fun n => [(0, .d (u8s code)), (1, .d (u8s more)), (5, .ref 5 0), (6, .d (.int .i64 st)), (7, .d (.lst (ds.map deedD))), (8, .d (.int .i64 n))]) (fun n => [(5, .box [.d (.int .i64 s), .d (rows nx), .d (ints lp)])]) (fun n => ds.length + 1 - n) 0 trivial ?_ rfl ?_
    · ((repeat (first | exact trivial | (refine ⟨?_, ?_⟩; (focus (first | rfl | (simp [lk, argsS, args0]; done) | (simp [lk, argsS, args0]; omega)))))))
    · intro n _
      by_cases hlt : n ≤ ds.length
      · have hv1 : ∀ p ∈ ds.take n, vdeed p.1 p.2 = true := fun p hp => hdv p (List.mem_of_mem_take hp)
        have hl1 : (ds.take n).length ≤ 400 := by rw [List.length_take]; omega
        have c1 := impl_LineAfter hv hst hv1 hl1
        have c2 := impl_ToldAfter hv hst hv1 hl1
        have c3 := spec_ToldAfterV hv hst hv1 hl1
        have hmt : deedsD (ds.take n) = .lst ((ds.map deedD).take ((n : Nat) : Int).toNat) := by unfold deedsD; rw [List.map_take]; rfl
        rw [hmt] at c1 c2 c3
        obtain ⟨hs', hi⟩ := runF_inv hv (ds.take n) (ln0_ok (nx := nx) hst) (lnInv0 hst) fun p hp => ddOk_of (hv1 p hp)
        have hln := runF_ok hv (ds.take n) (ln0_ok (nx := nx) hst) fun p hp => ddOk_of (hv1 p hp)
        have htl := toldD_len (nx := nx) (s := s) hv hln.d
        generalize runF s nx lp (ln0 s st) (ds.take n) = L at *
        generalize doneF (codesF s nx lp (ln0 s st) (ds.take n)) = dn at *
        have e1 := laws_a2Same (a := toldD nx L.d) (b := toldD nx L.d) (by omega) (by omega)
        have e2 := laws_a2Has (a := toldD nx L.d) (n := L.st) (by omega)
        rw [decide_eq_true rfl] at e1
        have hq : 0 ≤ (ds.length : Int) / 8 := by omega
        unfold ltD lnL at *
        by_cases hk : L.d.life = L.life
        · rw [decide_eq_true (hi.told hk)] at e2
          repeat (first | refine awp_seq ?_ | refine then_n ?_ | refine then_r ?_ | refine then_x ?_ | refine block_n ?_ | refine block_r ?_ | refine block_x ?_ | refine u_y ?_ | refine loop_r ?_ | refine loop_x ?_ | refine awp_region ?_ | refine awpL_nil ?_ | refine awpQL_nil ?_ | refine awp_block ?_ | refine awp_skip ?_ | refine awp_exit ?_ | refine awp_label ?_ | refine u_l ?_ | refine u_o ?_ | refine u_q ?_ | refine u_lr ?_ | refine u_qr ?_ | refine u_ls ?_ | refine u_qs ?_ | refine u_t ?_ | refine u_f ?_ | refine v_s ?_ | refine v_o ?_ | refine v_on ?_ | refine v_og ?_ | refine v_q ?_ | refine v_sr ?_ | refine v_k ?_ | refine m_nil ?_)
          refine u_m [(10, [9]), (11, [9])] (.tk [9] [0, 1, 2, 3, 4, 5, 6, 7, 8, 9] (.tk [] [10, 11, 12, 13] .done)) ?_
          repeat (first | refine awp_seq ?_ | refine then_n ?_ | refine then_r ?_ | refine then_x ?_ | refine block_n ?_ | refine block_r ?_ | refine block_x ?_ | refine u_y ?_ | refine loop_r ?_ | refine loop_x ?_ | refine awp_region ?_ | refine awpL_nil ?_ | refine awpQL_nil ?_ | refine awp_block ?_ | refine awp_skip ?_ | refine awp_exit ?_ | refine awp_label ?_ | ((first | apply x_l | apply x_q | apply x_lr | apply x_qr); (focus (first | (apply qa_slice_h; (iterate 8 (focus (first | exact rfl | (first | assumption | omega | (simp; omega) | (simp; done) | rfl))))))); exact rfl) | ((first | apply c_l | apply c_q | apply c_lr | apply c_qr); (iterate 2 exact rfl); (focus (first | exact c1)); (iterate 2 exact rfl)) | (apply v_x; (iterate 2 exact rfl); (focus (intro ok0 nw hle; (first | (apply qa_slice_h; (iterate 8 (focus (first | exact rfl | (first | assumption | omega | (simp; omega) | (simp; done) | rfl)))))))); (iterate 2 exact rfl)) | (apply v_c; (iterate 4 exact rfl); (focus (first | exact c1)); (iterate 2 exact rfl)) | refine u_l ?_ | refine u_o ?_ | refine u_q ?_ | refine u_lr ?_ | refine u_qr ?_ | refine u_ls ?_ | refine u_qs ?_ | refine u_t ?_ | refine u_f ?_ | refine v_s ?_ | refine v_o ?_ | refine v_on ?_ | refine v_og ?_ | refine v_q ?_ | refine v_sr ?_ | refine v_k ?_ | refine m_nil ?_)
          refine awp_sub (s' := [(0, .d (u8s code)), (1, .d (u8s more)), (5, .ref 5 0), (6, .d (.int .i64 st)), (7, .d (.lst (ds.map deedD))), (8, .d (.int .i64 n)), (9, .ref 9 0), (11, .d (.int .i64 0))]) (by ((repeat (first | exact trivial | (refine ⟨?_, ?_⟩; (focus (first | rfl | (simp [lk, argsS, args0]; done) | (simp [lk, argsS, args0]; omega)))))))) ?_
          refine awp_permTo [(5, .box [.d (.int .i64 s), .d (rows nx), .d (ints lp)]), (9, .box [.d (.int .i64 L.st), .d (.int .i64 L.life), .d (.int .i64 L.tk), .d (.int .i64 L.d.life), .d (ints L.d.ord), .d (.int .i64 L.d.sure), .d (ints L.d.bel), .d (.int .i64 L.sv.life), .d (ints L.sv.ord), .d (.int .i64 L.sv.sure), .d (ints L.sv.bel), .d (.lst (L.wire.map pkD))])] rfl ?_
          repeat (first | refine awp_seq ?_ | refine then_n ?_ | refine then_r ?_ | refine then_x ?_ | refine block_n ?_ | refine block_r ?_ | refine block_x ?_ | refine u_y ?_ | refine loop_r ?_ | refine loop_x ?_ | refine awpL_nil ?_ | refine awpQL_nil ?_ | refine awp_block ?_ | refine awp_skip ?_ | refine awp_exit ?_ | refine awp_label ?_ | refine u_dT ?_ | refine u_d ?_ | ((first | apply x_l | apply x_q | apply x_lr | apply x_qr); (focus (first | (apply qa_slice_h; (iterate 8 (focus (first | exact rfl | (first | assumption | omega | (simp; omega) | (simp; done) | rfl))))))); exact rfl) | ((first | apply c_l | apply c_q | apply c_lr | apply c_qr); (iterate 2 exact rfl); (focus (first | exact c2 | exact c3)); (iterate 2 exact rfl)) | (apply v_x; (iterate 2 exact rfl); (focus (intro ok0 nw hle; (first | (apply qa_slice_h; (iterate 8 (focus (first | exact rfl | (first | assumption | omega | (simp; omega) | (simp; done) | rfl)))))))); (iterate 2 exact rfl)) | (apply v_c; (iterate 4 exact rfl); (focus (first | exact c2 | exact c3)); (iterate 2 exact rfl)) | refine u_l ?_ | refine u_o ?_ | refine u_q ?_ | refine u_lr ?_ | refine u_qr ?_ | refine u_ls ?_ | refine u_qs ?_ | refine u_t ?_ | refine u_f ?_ | refine v_s ?_ | refine v_o ?_ | refine v_on ?_ | refine v_og ?_ | refine v_q ?_ | refine v_sr ?_ | refine v_k ?_ | refine m_nil ?_ | refine u_glt ?_ | refine u_glf ?_ | refine u_gqt ?_ | refine u_gqf ?_)
          refine awp_region ?_
          repeat (first | refine awp_seq ?_ | refine then_n ?_ | refine then_r ?_ | refine then_x ?_ | refine block_n ?_ | refine block_r ?_ | refine block_x ?_ | refine u_y ?_ | refine loop_r ?_ | refine loop_x ?_ | refine awpL_nil ?_ | refine awpQL_nil ?_ | refine awp_block ?_ | refine awp_skip ?_ | refine awp_exit ?_ | refine awp_label ?_ | refine u_dT ?_ | refine u_d ?_ | ((first | apply c_l | apply c_q | apply c_lr | apply c_qr); (iterate 2 exact rfl); (focus (first | exact e1)); (iterate 2 exact rfl)) | (apply v_c; (iterate 4 exact rfl); (focus (first | exact e1)); (iterate 2 exact rfl)) | refine u_l ?_ | refine u_o ?_ | refine u_q ?_ | refine u_lr ?_ | refine u_qr ?_ | refine u_ls ?_ | refine u_qs ?_ | refine u_t ?_ | refine u_f ?_ | refine v_s ?_ | refine v_o ?_ | refine v_on ?_ | refine v_og ?_ | refine v_q ?_ | refine v_sr ?_ | refine v_k ?_ | refine m_nil ?_ | refine u_glt ?_ | refine u_glf ?_ | refine u_gqt ?_ | refine u_gqf ?_)
          refine awp_region ?_
          repeat (first | refine awp_seq ?_ | refine then_n ?_ | refine then_r ?_ | refine then_x ?_ | refine block_n ?_ | refine block_r ?_ | refine block_x ?_ | refine u_y ?_ | refine loop_r ?_ | refine loop_x ?_ | refine awpL_nil ?_ | refine awpQL_nil ?_ | refine awp_block ?_ | refine awp_skip ?_ | refine awp_exit ?_ | refine awp_label ?_ | refine u_dT ?_ | refine u_d ?_ | ((first | apply c_l | apply c_q | apply c_lr | apply c_qr); (iterate 2 exact rfl); (focus (first | exact e2)); (iterate 2 exact rfl)) | (apply v_c; (iterate 4 exact rfl); (focus (first | exact e2)); (iterate 2 exact rfl)) | refine u_l ?_ | refine u_o ?_ | refine u_q ?_ | refine u_lr ?_ | refine u_qr ?_ | refine u_ls ?_ | refine u_qs ?_ | refine u_t ?_ | refine u_f ?_ | refine v_s ?_ | refine v_o ?_ | refine v_on ?_ | refine v_og ?_ | refine v_q ?_ | refine v_sr ?_ | refine v_k ?_ | refine m_nil ?_ | refine u_glt ?_ | refine u_glf ?_ | refine u_gqt ?_ | refine u_gqf ?_)
          refine awp_freezeB 9 rfl rfl rfl ?_
          repeat (first | refine awp_seq ?_ | refine then_n ?_ | refine then_r ?_ | refine then_x ?_ | refine block_n ?_ | refine block_r ?_ | refine block_x ?_ | refine u_y ?_ | refine loop_r ?_ | refine loop_x ?_ | refine awp_region ?_ | refine awpL_nil ?_ | refine awpQL_nil ?_ | refine awp_block ?_ | refine awp_skip ?_ | refine awp_exit ?_ | refine awp_label ?_ | refine u_dT ?_ | refine u_d ?_ | refine u_l ?_ | refine u_o ?_ | refine u_q ?_ | refine u_lr ?_ | refine u_qr ?_ | refine u_ls ?_ | refine u_qs ?_ | refine u_t ?_ | refine u_f ?_ | refine v_s ?_ | refine v_o ?_ | refine v_on ?_ | refine v_og ?_ | refine v_q ?_ | refine v_sr ?_ | refine v_k ?_ | refine m_nil ?_)
          refine loop_n (n + (1 + ds.length / 8)) trivial ?_ rfl (by omega)
          rw [show ((n + (1 + ds.length / 8) : Nat) : Int) = n + (1 + ((ds.map deedD).length : Nat) / 8) by rw [hle]; omega]
          ((repeat (first | exact trivial | (refine ⟨?_, ?_⟩; (focus (first | rfl | (simp [lk, argsS, args0]; done) | (simp [lk, argsS, args0]; omega)))))))
        · repeat (first | refine awp_seq ?_ | refine then_n ?_ | refine then_r ?_ | refine then_x ?_ | refine block_n ?_ | refine block_r ?_ | refine block_x ?_ | refine u_y ?_ | refine loop_r ?_ | refine loop_x ?_ | refine awp_region ?_ | refine awpL_nil ?_ | refine awpQL_nil ?_ | refine awp_block ?_ | refine awp_skip ?_ | refine awp_exit ?_ | refine awp_label ?_ | refine u_l ?_ | refine u_o ?_ | refine u_q ?_ | refine u_lr ?_ | refine u_qr ?_ | refine u_ls ?_ | refine u_qs ?_ | refine u_t ?_ | refine u_f ?_ | refine v_s ?_ | refine v_o ?_ | refine v_on ?_ | refine v_og ?_ | refine v_q ?_ | refine v_sr ?_ | refine v_k ?_ | refine m_nil ?_)
          refine u_m [(10, [9]), (11, [9])] (.tk [9] [0, 1, 2, 3, 4, 5, 6, 7, 8, 9] (.tk [] [10, 11, 12, 13] .done)) ?_
          repeat (first | refine awp_seq ?_ | refine then_n ?_ | refine then_r ?_ | refine then_x ?_ | refine block_n ?_ | refine block_r ?_ | refine block_x ?_ | refine u_y ?_ | refine loop_r ?_ | refine loop_x ?_ | refine awp_region ?_ | refine awpL_nil ?_ | refine awpQL_nil ?_ | refine awp_block ?_ | refine awp_skip ?_ | refine awp_exit ?_ | refine awp_label ?_ | ((first | apply x_l | apply x_q | apply x_lr | apply x_qr); (focus (first | (apply qa_slice_h; (iterate 8 (focus (first | exact rfl | (first | assumption | omega | (simp; omega) | (simp; done) | rfl))))))); exact rfl) | ((first | apply c_l | apply c_q | apply c_lr | apply c_qr); (iterate 2 exact rfl); (focus (first | exact c1)); (iterate 2 exact rfl)) | (apply v_x; (iterate 2 exact rfl); (focus (intro ok0 nw hle; (first | (apply qa_slice_h; (iterate 8 (focus (first | exact rfl | (first | assumption | omega | (simp; omega) | (simp; done) | rfl)))))))); (iterate 2 exact rfl)) | (apply v_c; (iterate 4 exact rfl); (focus (first | exact c1)); (iterate 2 exact rfl)) | refine u_l ?_ | refine u_o ?_ | refine u_q ?_ | refine u_lr ?_ | refine u_qr ?_ | refine u_ls ?_ | refine u_qs ?_ | refine u_t ?_ | refine u_f ?_ | refine v_s ?_ | refine v_o ?_ | refine v_on ?_ | refine v_og ?_ | refine v_q ?_ | refine v_sr ?_ | refine v_k ?_ | refine m_nil ?_)
          refine awp_sub (s' := [(0, .d (u8s code)), (1, .d (u8s more)), (5, .ref 5 0), (6, .d (.int .i64 st)), (7, .d (.lst (ds.map deedD))), (8, .d (.int .i64 n)), (9, .ref 9 0), (11, .d (.int .i64 0))]) (by ((repeat (first | exact trivial | (refine ⟨?_, ?_⟩; (focus (first | rfl | (simp [lk, argsS, args0]; done) | (simp [lk, argsS, args0]; omega)))))))) ?_
          refine awp_permTo [(5, .box [.d (.int .i64 s), .d (rows nx), .d (ints lp)]), (9, .box [.d (.int .i64 L.st), .d (.int .i64 L.life), .d (.int .i64 L.tk), .d (.int .i64 L.d.life), .d (ints L.d.ord), .d (.int .i64 L.d.sure), .d (ints L.d.bel), .d (.int .i64 L.sv.life), .d (ints L.sv.ord), .d (.int .i64 L.sv.sure), .d (ints L.sv.bel), .d (.lst (L.wire.map pkD))])] rfl ?_
          repeat (first | refine awp_seq ?_ | refine then_n ?_ | refine then_r ?_ | refine then_x ?_ | refine block_n ?_ | refine block_r ?_ | refine block_x ?_ | refine u_y ?_ | refine loop_r ?_ | refine loop_x ?_ | refine awpL_nil ?_ | refine awpQL_nil ?_ | refine awp_block ?_ | refine awp_skip ?_ | refine awp_exit ?_ | refine awp_label ?_ | refine u_dT ?_ | refine u_d ?_ | ((first | apply x_l | apply x_q | apply x_lr | apply x_qr); (focus (first | (apply qa_slice_h; (iterate 8 (focus (first | exact rfl | (first | assumption | omega | (simp; omega) | (simp; done) | rfl))))))); exact rfl) | ((first | apply c_l | apply c_q | apply c_lr | apply c_qr); (iterate 2 exact rfl); (focus (first | exact c2 | exact c3)); (iterate 2 exact rfl)) | (apply v_x; (iterate 2 exact rfl); (focus (intro ok0 nw hle; (first | (apply qa_slice_h; (iterate 8 (focus (first | exact rfl | (first | assumption | omega | (simp; omega) | (simp; done) | rfl)))))))); (iterate 2 exact rfl)) | (apply v_c; (iterate 4 exact rfl); (focus (first | exact c2 | exact c3)); (iterate 2 exact rfl)) | refine u_l ?_ | refine u_o ?_ | refine u_q ?_ | refine u_lr ?_ | refine u_qr ?_ | refine u_ls ?_ | refine u_qs ?_ | refine u_t ?_ | refine u_f ?_ | refine v_s ?_ | refine v_o ?_ | refine v_on ?_ | refine v_og ?_ | refine v_q ?_ | refine v_sr ?_ | refine v_k ?_ | refine m_nil ?_ | refine u_glt ?_ | refine u_glf ?_ | refine u_gqt ?_ | refine u_gqf ?_)
          refine awp_region ?_
          repeat (first | refine awp_seq ?_ | refine then_n ?_ | refine then_r ?_ | refine then_x ?_ | refine block_n ?_ | refine block_r ?_ | refine block_x ?_ | refine u_y ?_ | refine loop_r ?_ | refine loop_x ?_ | refine awpL_nil ?_ | refine awpQL_nil ?_ | refine awp_block ?_ | refine awp_skip ?_ | refine awp_exit ?_ | refine awp_label ?_ | refine u_dT ?_ | refine u_d ?_ | ((first | apply c_l | apply c_q | apply c_lr | apply c_qr); (iterate 2 exact rfl); (focus (first | exact e1)); (iterate 2 exact rfl)) | (apply v_c; (iterate 4 exact rfl); (focus (first | exact e1)); (iterate 2 exact rfl)) | refine u_l ?_ | refine u_o ?_ | refine u_q ?_ | refine u_lr ?_ | refine u_qr ?_ | refine u_ls ?_ | refine u_qs ?_ | refine u_t ?_ | refine u_f ?_ | refine v_s ?_ | refine v_o ?_ | refine v_on ?_ | refine v_og ?_ | refine v_q ?_ | refine v_sr ?_ | refine v_k ?_ | refine m_nil ?_ | refine u_glt ?_ | refine u_glf ?_ | refine u_gqt ?_ | refine u_gqf ?_)
          refine awp_region ?_
          repeat (first | refine awp_seq ?_ | refine then_n ?_ | refine then_r ?_ | refine then_x ?_ | refine block_n ?_ | refine block_r ?_ | refine block_x ?_ | refine u_y ?_ | refine loop_r ?_ | refine loop_x ?_ | refine awpL_nil ?_ | refine awpQL_nil ?_ | refine awp_block ?_ | refine awp_skip ?_ | refine awp_exit ?_ | refine awp_label ?_ | refine u_dT ?_ | refine u_d ?_ | ((first | apply c_l | apply c_q | apply c_lr | apply c_qr); (iterate 2 exact rfl); (focus (first | exact e2)); (iterate 2 exact rfl)) | (apply v_c; (iterate 4 exact rfl); (focus (first | exact e2)); (iterate 2 exact rfl)) | refine u_l ?_ | refine u_o ?_ | refine u_q ?_ | refine u_lr ?_ | refine u_qr ?_ | refine u_ls ?_ | refine u_qs ?_ | refine u_t ?_ | refine u_f ?_ | refine v_s ?_ | refine v_o ?_ | refine v_on ?_ | refine v_og ?_ | refine v_q ?_ | refine v_sr ?_ | refine v_k ?_ | refine m_nil ?_ | refine u_glt ?_ | refine u_glf ?_ | refine u_gqt ?_ | refine u_gqf ?_)
          refine awp_freezeB 9 rfl rfl rfl ?_
          repeat (first | refine awp_seq ?_ | refine then_n ?_ | refine then_r ?_ | refine then_x ?_ | refine block_n ?_ | refine block_r ?_ | refine block_x ?_ | refine u_y ?_ | refine loop_r ?_ | refine loop_x ?_ | refine awp_region ?_ | refine awpL_nil ?_ | refine awpQL_nil ?_ | refine awp_block ?_ | refine awp_skip ?_ | refine awp_exit ?_ | refine awp_label ?_ | refine u_dT ?_ | refine u_d ?_ | refine u_l ?_ | refine u_o ?_ | refine u_q ?_ | refine u_lr ?_ | refine u_qr ?_ | refine u_ls ?_ | refine u_qs ?_ | refine u_t ?_ | refine u_f ?_ | refine v_s ?_ | refine v_o ?_ | refine v_on ?_ | refine v_og ?_ | refine v_q ?_ | refine v_sr ?_ | refine v_k ?_ | refine m_nil ?_)
          refine loop_n (n + (1 + ds.length / 8)) trivial ?_ rfl (by omega)
          rw [show ((n + (1 + ds.length / 8) : Nat) : Int) = n + (1 + ((ds.map deedD).length : Nat) / 8) by rw [hle]; omega]
          ((repeat (first | exact trivial | (refine ⟨?_, ?_⟩; (focus (first | rfl | (simp [lk, argsS, args0]; done) | (simp [lk, argsS, args0]; omega)))))))
      · repeat (first | refine awp_seq ?_ | refine then_n ?_ | refine then_r ?_ | refine then_x ?_ | refine block_n ?_ | refine block_r ?_ | refine block_x ?_ | refine u_y ?_ | refine loop_r ?_ | refine loop_x ?_ | refine awp_region ?_ | refine awpL_nil ?_ | refine awpQL_nil ?_ | refine awp_block ?_ | refine awp_skip ?_ | refine awp_exit ?_ | refine awp_label ?_ | refine u_dT ?_ | refine u_d ?_ | refine u_l ?_ | refine u_o ?_ | refine u_q ?_ | refine u_lr ?_ | refine u_qr ?_ | refine u_ls ?_ | refine u_qs ?_ | refine u_t ?_ | refine u_f ?_ | refine v_s ?_ | refine v_o ?_ | refine v_on ?_ | refine v_og ?_ | refine v_q ?_ | refine v_sr ?_ | refine v_k ?_ | refine m_nil ?_)
        (refine awp_ret ?_; (repeat (first | refine then_r ?_ | refine block_r ?_ | refine loop_r ?_)); apply ret_ok (.inr rfl); (focus exact rfl))
        rfl
end Go.Proofs.YtampglcgipefnaaGreat
