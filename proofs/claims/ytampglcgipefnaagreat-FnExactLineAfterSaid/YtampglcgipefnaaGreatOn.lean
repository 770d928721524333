/- LineAfter, in the reference and in the program, and its law. No condition. -/
import Derived.Test.YtampglcgipefnaaGreatOq
namespace Go.Proofs.YtampglcgipefnaaGreat
open Go
attribute [local irreducible] awp awpL awpQL awpQ awpM pWalk Qt AC thenQ blockQ loopQ OpTo
set_option linter.unusedVariables false
set_option linter.unusedSimpArgs false
set_option maxHeartbeats 2000000
attribute [local irreducible] HC

def lnZ : Ln := ⟨0, 0, 0, ⟨0, [], 0, []⟩, ⟨0, [], 0, []⟩, []⟩
theorem keep_set {f : SV → SV} {X : List Nat} {id : Nat} {c : Chunk} (hm : memB id X = true) : ∀ h : Heap, keepH f X h = keepH f X (setH id c h)
  | [] => rfl
  | p :: h => by
    unfold setH
    cases e : Nat.beq p.1 id with
    | true =>
      have := Nat.eq_of_beq_eq_true e
      simp only [keepH, this, hm]
    | false =>
      simp only [keepH]
      rw [← keep_set hm h]
def laD (s st : Int) (nx : List (List Int)) (lp : List Int) (ds : List (Int × Int)) : Ln × Nat × Int :=
  if askC s st nx lp ds = 0 then (runF s nx lp (ln0 s st) ds, doneF (codesF s nx lp (ln0 s st) ds), 0) else (lnZ, 0, askC s st nx lp ds)

theorem spec_LineAfter {s st : Int} {nx : List (List Int)} {lp : List Int} {ds : List (Int × Int)} (h : RowsOk nx) (h2 : lp.length ≤ 9223372036854775807) (h3 : ds.length ≤ 1048576) :
    AC Tryz.prog 17 [ltD s nx lp, .int .i64 st, deedsD ds] (.tup [.agg (lnL (laD s st nx lp ds).1), .int .i64 ((laD s st nx lp ds).2.1 : Nat), .int .i64 (laD s st nx lp ds).2.2]) := by
  have e1 := spec_l08Asked (s := s) (st := st) (nx := nx) (lp := lp) (ds := ds) h h2 h3
  unfold laD
  by_cases ha : askC s st nx lp ds = 0
  · rw [if_pos ha]
    obtain ⟨hv, hst, hd, hl⟩ := ask_ok ha
    have e2 := spec_l08Run hv hst hd hl
    have hcl := codesF_len (s := s) (nx := nx) (lp := lp) ds (ln0 s st)
    rw [ha] at e1
    generalize codesF s nx lp (ln0 s st) ds = cs at *
    generalize runF s nx lp (ln0 s st) ds = n at *
    have hcm : (cs.map (D.int .i64)).length = cs.length := by simp
    unfold ltD lnL at *
    refine ac_introC tabIs _ Tryz.func17 rfl rfl Tryz.ntmps17 rfl rfl fun w0 ok0 => ?_
    repeat (first | refine awp_seq ?_ | refine then_n ?_ | refine then_r ?_ | refine then_x ?_ | refine block_n ?_ | refine block_r ?_ | refine block_x ?_ | refine u_y ?_ | refine loop_r ?_ | refine loop_x ?_ | refine awp_region ?_ | refine awpL_nil ?_ | refine awpQL_nil ?_ | refine awp_block ?_ | refine awp_skip ?_ | refine awp_exit ?_ | refine awp_label ?_ | ((first | apply c_l | apply c_q | apply c_lr | apply c_qr); (iterate 2 exact rfl); (focus (first | exact e1 | exact e2)); (iterate 2 exact rfl)) | (apply v_c; (iterate 4 exact rfl); (focus (first | exact e1 | exact e2)); (iterate 2 exact rfl)) | refine u_l ?_ | refine u_o ?_ | refine u_q ?_ | refine u_lr ?_ | refine u_qr ?_ | refine u_ls ?_ | refine u_qs ?_ | refine u_t ?_ | refine u_f ?_ | refine v_s ?_ | refine v_o ?_ | refine v_on ?_ | refine v_og ?_ | refine v_q ?_ | refine v_sr ?_ | refine v_k ?_ | refine m_nil ?_)
    refine awp_loop (fun k : Nat => k ≤ cs.length) (fun k => [(6, .ref 6 0), (10, .ref 10 0), (11, .d (ints cs)), (12, .d (.int .i64 (doneF (cs.take k) : Nat))), (13, .d (.int .i64 k))]) (fun _ => [(10, .box [.d (.int .i64 n.st), .d (.int .i64 n.life), .d (.int .i64 n.tk), .d (.int .i64 n.d.life), .d (ints n.d.ord), .d (.int .i64 n.d.sure), .d (ints n.d.bel), .d (.int .i64 n.sv.life), .d (ints n.sv.ord), .d (.int .i64 n.sv.sure), .d (ints n.sv.bel), .d (.lst (n.wire.map pkD))]), (6, .box [.d (.int .i64 0), .d (.int .i64 0), .d (.int .i64 0), .d (.int .i64 0), .d .nils, .d (.int .i64 0), .d .nils, .d (.int .i64 0), .d .nils, .d (.int .i64 0), .d .nils, .d .nils])]) (fun k => cs.length - k) 0 (by omega) ?_ rfl ?_
    · ((repeat (first | exact trivial | (refine ⟨?_, ?_⟩; (focus (first | rfl | (simp [lk, argsS, args0]; done) | (simp [lk, argsS, args0]; omega)))))))
    · intro k hk
      have hdo := doneF_le (cs.take k)
      rw [List.length_take] at hdo
      by_cases hlt : k < cs.length
      · have hx := el_int hlt
        have t3 : doneF (cs.take (k + 1)) = doneF (cs.take k) + if cs[k] = 0 then 1 else 0 := by
          rw [List.take_succ_eq_append_getElem hlt, doneF_append]
          simp [doneF]
        generalize cs[k] = x at *
        generalize doneF (cs.take k) = dn at *
        by_cases h0 : x = 0
        · rw [if_pos h0] at t3
          repeat (first | refine awp_seq ?_ | refine then_n ?_ | refine then_r ?_ | refine then_x ?_ | refine block_n ?_ | refine block_r ?_ | refine block_x ?_ | refine u_y ?_ | refine loop_r ?_ | refine loop_x ?_ | refine awp_region ?_ | refine awpL_nil ?_ | refine awpQL_nil ?_ | refine awp_block ?_ | refine awp_skip ?_ | refine awp_exit ?_ | refine awp_label ?_ | refine u_dT ?_ | refine u_d ?_ | refine u_l ?_ | refine u_o ?_ | refine u_q ?_ | refine u_lr ?_ | refine u_qr ?_ | refine u_ls ?_ | refine u_qs ?_ | refine u_t ?_ | refine u_f ?_ | refine v_s ?_ | refine v_o ?_ | refine v_on ?_ | refine v_og ?_ | refine v_q ?_ | refine v_sr ?_ | refine v_k ?_ | refine m_nil ?_)
          refine loop_n (k + 1) (by omega) ?_ rfl (by omega)
          rw [t3, Int.natCast_add]; ((repeat (first | exact trivial | (refine ⟨?_, ?_⟩; (focus (first | rfl | (simp [lk, argsS, args0]; done) | (simp [lk, argsS, args0]; omega)))))))
        · rw [if_neg h0, Nat.add_zero] at t3
          repeat (first | refine awp_seq ?_ | refine then_n ?_ | refine then_r ?_ | refine then_x ?_ | refine block_n ?_ | refine block_r ?_ | refine block_x ?_ | refine u_y ?_ | refine loop_r ?_ | refine loop_x ?_ | refine awp_region ?_ | refine awpL_nil ?_ | refine awpQL_nil ?_ | refine awp_block ?_ | refine awp_skip ?_ | refine awp_exit ?_ | refine awp_label ?_ | refine u_dT ?_ | refine u_d ?_ | refine u_l ?_ | refine u_o ?_ | refine u_q ?_ | refine u_lr ?_ | refine u_qr ?_ | refine u_ls ?_ | refine u_qs ?_ | refine u_t ?_ | refine u_f ?_ | refine v_s ?_ | refine v_o ?_ | refine v_on ?_ | refine v_og ?_ | refine v_q ?_ | refine v_sr ?_ | refine v_k ?_ | refine m_nil ?_)
          refine loop_n (k + 1) (by omega) ?_ rfl (by omega)
          rw [t3]; ((repeat (first | exact trivial | (refine ⟨?_, ?_⟩; (focus (first | rfl | (simp [lk, argsS, args0]; done) | (simp [lk, argsS, args0]; omega)))))))
      · have : k = cs.length := by omega
        subst this
        have htl : cs.take cs.length = cs := List.take_length
        rw [htl]
        repeat (first | refine awp_seq ?_ | refine then_n ?_ | refine then_r ?_ | refine then_x ?_ | refine block_n ?_ | refine block_r ?_ | refine block_x ?_ | refine u_y ?_ | refine loop_r ?_ | refine loop_x ?_ | refine awp_region ?_ | refine awpL_nil ?_ | refine awpQL_nil ?_ | refine awp_block ?_ | refine awp_skip ?_ | refine awp_exit ?_ | refine awp_label ?_ | refine u_dT ?_ | refine u_d ?_ | refine u_l ?_ | refine u_o ?_ | refine u_q ?_ | refine u_lr ?_ | refine u_qr ?_ | refine u_ls ?_ | refine u_qs ?_ | refine u_t ?_ | refine u_f ?_ | refine v_s ?_ | refine v_o ?_ | refine v_on ?_ | refine v_og ?_ | refine v_q ?_ | refine v_sr ?_ | refine v_k ?_ | refine m_nil ?_)
        (refine awp_ret ?_; (repeat (first | refine then_r ?_ | refine block_r ?_ | refine loop_r ?_)); apply ret_okC (.inr rfl); (focus exact rfl))
        rfl
  · rw [if_neg ha]
    generalize askC s st nx lp ds = c at *
    unfold ltD at *
    refine ac_introC tabIs _ Tryz.func17 rfl rfl Tryz.ntmps17 rfl rfl fun w0 ok0 => ?_
    repeat (first | refine awp_seq ?_ | refine then_n ?_ | refine then_r ?_ | refine then_x ?_ | refine block_n ?_ | refine block_r ?_ | refine block_x ?_ | refine u_y ?_ | refine loop_r ?_ | refine loop_x ?_ | refine awp_region ?_ | refine awpL_nil ?_ | refine awpQL_nil ?_ | refine awp_block ?_ | refine awp_skip ?_ | refine awp_exit ?_ | refine awp_label ?_ | refine u_dT ?_ | refine u_d ?_ | ((first | apply c_l | apply c_q | apply c_lr | apply c_qr); (iterate 2 exact rfl); (focus (first | exact e1)); (iterate 2 exact rfl)) | (apply v_c; (iterate 4 exact rfl); (focus (first | exact e1)); (iterate 2 exact rfl)) | refine u_l ?_ | refine u_o ?_ | refine u_q ?_ | refine u_lr ?_ | refine u_qr ?_ | refine u_ls ?_ | refine u_qs ?_ | refine u_t ?_ | refine u_f ?_ | refine v_s ?_ | refine v_o ?_ | refine v_on ?_ | refine v_og ?_ | refine v_q ?_ | refine v_sr ?_ | refine v_k ?_ | refine m_nil ?_)
    refine awp_cellLe 6 4 rfl rfl .nil ?_
    refine awp_cellLe 6 6 rfl rfl .nil ?_
    refine awp_cellLe 6 8 rfl rfl .nil ?_
    refine awp_cellLe 6 10 rfl rfl .nil ?_
    refine awp_cellLe 6 11 rfl rfl .nil ?_
    (refine awp_ret ?_; (repeat (first | refine then_r ?_ | refine block_r ?_ | refine loop_r ?_)); apply ret_okC (.inr rfl); (focus exact rfl))
    rfl

theorem elsOk_pk : ∀ l : List Pk, elsOk 4 (l.map pkD) = true
  | [] => rfl
  | p :: l => by simp [elsOk, D.el, D.one, D.width, elsOk_pk l, pkD]

theorem impl_copiedH {d : Dsk} (h1 : d.ord.length ≤ 60) (h2 : d.bel.length ≤ 10) : HC Tryz.prog 52 [.d (dskD d)] [] (skL d 30000 30001) [(30000, i64C d.ord), (30001, i64C d.bel)] := by
  have e1 := impl_cloneH (ns := d.ord) (by omega)
  have e2 := impl_cloneH (ns := d.bel) (by omega)
  unfold dskD dskL skL i64C
  refine hc_intro tabIs _ Tryz.func52 rfl rfl Tryz.ntmps52 rfl rfl rfl ?_ fun w0 ok0 XM XA anc => ?_
  · exact likeIn_nil
  repeat (first | refine awp_seq ?_ | refine then_n ?_ | refine then_r ?_ | refine then_x ?_ | refine block_n ?_ | refine block_r ?_ | refine block_x ?_ | refine u_y ?_ | refine loop_r ?_ | refine loop_x ?_ | refine awp_region ?_ | refine awpL_nil ?_ | refine awpQL_nil ?_ | refine awp_block ?_ | refine awp_skip ?_ | refine awp_exit ?_ | refine awp_label ?_ | refine u_l ?_ | refine u_o ?_ | refine u_q ?_ | refine u_lr ?_ | refine u_qr ?_ | refine u_ls ?_ | refine u_qs ?_ | refine u_t ?_ | refine u_f ?_ | refine v_s ?_ | refine v_o ?_ | refine v_on ?_ | refine v_og ?_ | refine v_q ?_ | refine v_sr ?_ | refine v_k ?_ | refine m_nil ?_)
  refine u_m [(4, [500]), (9, [501]), (11, [2])] (.tk [500, 501] [0, 1, 2, 3, 5, 6, 7, 8] (.tk [] [4, 9, 10, 11] .done)) ?_
  repeat (first | refine awp_seq ?_ | refine then_n ?_ | refine then_r ?_ | refine then_x ?_ | refine block_n ?_ | refine block_r ?_ | refine block_x ?_ | refine u_y ?_ | refine loop_r ?_ | refine loop_x ?_ | refine awp_region ?_ | refine awpL_nil ?_ | refine awpQL_nil ?_ | refine awp_block ?_ | refine awp_skip ?_ | refine awp_exit ?_ | refine awp_label ?_ | refine u_dT ?_ | refine u_d ?_ | refine u_l ?_ | refine u_o ?_ | refine u_q ?_ | refine u_lr ?_ | refine u_qr ?_ | refine u_ls ?_ | refine u_qs ?_ | refine u_t ?_ | refine u_f ?_ | refine v_s ?_ | refine v_o ?_ | refine v_on ?_ | refine v_og ?_ | refine v_q ?_ | refine v_sr ?_ | refine v_k ?_ | refine m_nil ?_)
  refine hclM [] [(30000, 500)] e1 ?_
  repeat (first | refine awp_seq ?_ | refine then_n ?_ | refine then_r ?_ | refine then_x ?_ | refine block_n ?_ | refine block_r ?_ | refine block_x ?_ | refine u_y ?_ | refine loop_r ?_ | refine loop_x ?_ | refine awp_region ?_ | refine awpL_nil ?_ | refine awpQL_nil ?_ | refine awp_block ?_ | refine awp_skip ?_ | refine awp_exit ?_ | refine awp_label ?_ | refine u_dT ?_ | refine u_d ?_ | refine u_l ?_ | refine u_o ?_ | refine u_q ?_ | refine u_lr ?_ | refine u_qr ?_ | refine u_ls ?_ | refine u_qs ?_ | refine u_t ?_ | refine u_f ?_ | refine v_s ?_ | refine v_o ?_ | refine v_on ?_ | refine v_og ?_ | refine v_q ?_ | refine v_sr ?_ | refine v_k ?_ | refine m_nil ?_)
  refine hclM [] [(30000, 501)] e2 ?_
  repeat (first | refine awp_seq ?_ | refine then_n ?_ | refine then_r ?_ | refine then_x ?_ | refine block_n ?_ | refine block_r ?_ | refine block_x ?_ | refine u_y ?_ | refine loop_r ?_ | refine loop_x ?_ | refine awp_region ?_ | refine awpL_nil ?_ | refine awpQL_nil ?_ | refine awp_block ?_ | refine awp_skip ?_ | refine awp_exit ?_ | refine awp_label ?_ | refine u_dT ?_ | refine u_d ?_ | refine u_l ?_ | refine u_o ?_ | refine u_q ?_ | refine u_lr ?_ | refine u_qr ?_ | refine u_ls ?_ | refine u_qs ?_ | refine u_t ?_ | refine u_f ?_ | refine v_s ?_ | refine v_o ?_ | refine v_on ?_ | refine v_og ?_ | refine v_q ?_ | refine v_sr ?_ | refine v_k ?_ | refine m_nil ?_)
  (refine awp_ret ?_; (repeat (first | refine then_r ?_ | refine block_r ?_ | refine loop_r ?_)); refine u_rH [(500, 30000), (501, 30001)] ?_ ?_)
  · rfl
  · rfl
theorem impl_clonePH {xs : List Pk} (hn : xs.length ≤ 1048576) : HC Tryz.prog 53 [.d (.lst (xs.map pkD))] [] (.own 30000) [(30000, wrC xs)] := by
  have hle : (xs.map pkD).length = xs.length := by simp
  unfold wrC
  refine hc_intro tabIs _ Tryz.func53 rfl rfl Tryz.ntmps53 rfl rfl rfl ?_ fun w0 ok0 XM XA anc => ?_
  · exact likeIn_nil
  repeat (first | refine awp_seq ?_ | refine then_n ?_ | refine then_r ?_ | refine then_x ?_ | refine block_n ?_ | refine block_r ?_ | refine block_x ?_ | refine u_y ?_ | refine loop_r ?_ | refine loop_x ?_ | refine awp_region ?_ | refine awpL_nil ?_ | refine awpQL_nil ?_ | refine awp_block ?_ | refine awp_skip ?_ | refine awp_exit ?_ | refine awp_label ?_ | refine u_dT ?_ | refine u_d ?_ | refine u_l ?_ | refine u_o ?_ | refine u_q ?_ | refine u_lr ?_ | refine u_qr ?_ | refine u_ls ?_ | refine u_qs ?_ | refine u_t ?_ | refine u_f ?_ | refine v_s ?_ | refine v_o ?_ | refine v_on ?_ | refine v_og ?_ | refine v_q ?_ | refine v_sr ?_ | refine v_k ?_ | refine m_nil ?_)
  refine awpL_eqNil rfl rfl rfl rfl ?_
  intro b hb
  cases b
  · repeat (first | refine v_w (t := 5) ?_ | refine awp_seq ?_ | refine then_n ?_ | refine then_r ?_ | refine then_x ?_ | refine block_n ?_ | refine block_r ?_ | refine block_x ?_ | refine u_y ?_ | refine loop_r ?_ | refine loop_x ?_ | refine awp_region ?_ | refine awpL_nil ?_ | refine awpQL_nil ?_ | refine awp_block ?_ | refine awp_skip ?_ | refine awp_exit ?_ | refine awp_label ?_ | refine u_dT ?_ | refine u_d ?_ | refine u_w (t := 5) ?_ | refine u_l ?_ | refine u_o ?_ | refine u_q ?_ | refine u_lr ?_ | refine u_qr ?_ | refine u_ls ?_ | refine u_qs ?_ | refine u_t ?_ | refine u_f ?_ | refine v_s ?_ | refine v_o ?_ | refine v_on ?_ | refine v_og ?_ | refine v_q ?_ | refine v_sr ?_ | refine v_k ?_ | refine m_nil ?_)
    (apply lto; (focus (apply wo_append; (iterate 14 exact rfl); exact elsOk_pk xs; (simp; omega))))
    repeat (first | refine awp_seq ?_ | refine then_n ?_ | refine then_r ?_ | refine then_x ?_ | refine block_n ?_ | refine block_r ?_ | refine block_x ?_ | refine u_y ?_ | refine loop_r ?_ | refine loop_x ?_ | refine awp_region ?_ | refine awpL_nil ?_ | refine awpQL_nil ?_ | refine awp_block ?_ | refine awp_skip ?_ | refine awp_exit ?_ | refine awp_label ?_ | refine u_dT ?_ | refine u_d ?_ | refine u_l ?_ | refine u_o ?_ | refine u_q ?_ | refine u_lr ?_ | refine u_qr ?_ | refine u_ls ?_ | refine u_qs ?_ | refine u_t ?_ | refine u_f ?_ | refine v_s ?_ | refine v_o ?_ | refine v_on ?_ | refine v_og ?_ | refine v_q ?_ | refine v_sr ?_ | refine v_k ?_ | refine m_nil ?_)
    (refine awp_ret ?_; (repeat (first | refine then_r ?_ | refine block_r ?_ | refine loop_r ?_)); refine u_rH [(5, 30000)] ?_ ?_)
    · rfl
    · rfl
  · have hn0 : xs = [] := List.map_eq_nil_iff.1 (hb rfl)
    subst hn0
    repeat (first | refine awp_seq ?_ | refine then_n ?_ | refine then_r ?_ | refine then_x ?_ | refine block_n ?_ | refine block_r ?_ | refine block_x ?_ | refine u_y ?_ | refine loop_r ?_ | refine loop_x ?_ | refine awp_region ?_ | refine awpL_nil ?_ | refine awpQL_nil ?_ | refine awp_block ?_ | refine awp_skip ?_ | refine awp_exit ?_ | refine awp_label ?_ | refine u_dT ?_ | refine u_d ?_ | refine u_l ?_ | refine u_o ?_ | refine u_q ?_ | refine u_lr ?_ | refine u_qr ?_ | refine u_ls ?_ | refine u_qs ?_ | refine u_t ?_ | refine u_f ?_ | refine v_s ?_ | refine v_o ?_ | refine v_on ?_ | refine v_og ?_ | refine v_q ?_ | refine v_sr ?_ | refine v_k ?_ | refine m_nil ?_)
    refine awp_nilSlot 2 7777 90 4 rfl rfl rfl ?_
    (refine awp_ret ?_; (repeat (first | refine then_r ?_ | refine block_r ?_ | refine loop_r ?_)); refine u_rH [(7777, 30000)] ?_ ?_)
    · rfl
    · rfl

theorem impl_LineAfterH {s st : Int} {nx : List (List Int)} {lp : List Int} {ds : List (Int × Int)} (h : RowsOk nx) (h2 : lp.length ≤ 9223372036854775807) (h3 : ds.length ≤ 1048576) :
    HC Tryz.prog 18 [.d (ltD s nx lp), .d (.int .i64 st), .d (deedsD ds)] [] (.tup [laS (laD s st nx lp ds).1 30000 30001 30002 30003 30004, .d (.int .i64 ((laD s st nx lp ds).2.1 : Nat)), .d (.int .i64 (laD s st nx lp ds).2.2)])
      [(30000, i64C (laD s st nx lp ds).1.d.ord), (30001, i64C (laD s st nx lp ds).1.d.bel), (30002, i64C (laD s st nx lp ds).1.sv.ord), (30003, i64C (laD s st nx lp ds).1.sv.bel), (30004, wrC (laD s st nx lp ds).1.wire)] := by
  have e1 := impl_deedsCode (s := s) (st := st) (nx := nx) (lp := lp) (ds := ds) h h2 h3
  unfold laD
  by_cases ha : askC s st nx lp ds = 0
  · rw [if_pos ha]
    obtain ⟨hv, hst, hd, hl⟩ := ask_ok ha
    have v := lv_of hv
    have hs := v.s1
    have c1 := impl_afterH hv hst hd hl
    have hln := runF_ok hv ds (ln0_ok (nx := nx) hst) hd
    rw [ha] at e1
    generalize doneF (codesF s nx lp (ln0 s st) ds) = dn at *
    generalize runF s nx lp (ln0 s st) ds = n at *
    have hw := hln.wl
    have c2 := impl_copiedH (d := n.d) hln.d.len (hln.d.bel_len (by omega))
    have c3 := impl_copiedH (d := n.sv) hln.sv.len (hln.sv.bel_len (by omega))
    have c4 := impl_clonePH (xs := n.wire) (by omega)
    unfold ltD deedsD wkB wrC dskD dskL skL laS i64C at *
    refine hc_intro tabIs _ Tryz.func18 rfl rfl Tryz.ntmps18 rfl rfl rfl ?_ fun w0 ok0 XM XA anc => ?_
    · exact likeIn_nil
    repeat (first | refine awp_seq ?_ | refine then_n ?_ | refine then_r ?_ | refine then_x ?_ | refine block_n ?_ | refine block_r ?_ | refine block_x ?_ | refine u_y ?_ | refine loop_r ?_ | refine loop_x ?_ | refine awp_region ?_ | refine awpL_nil ?_ | refine awpQL_nil ?_ | refine awp_block ?_ | refine awp_skip ?_ | refine awp_exit ?_ | refine awp_label ?_ | ((first | apply c_l | apply c_q | apply c_lr | apply c_qr); (iterate 2 exact rfl); (focus (first | exact e1)); (iterate 2 exact rfl)) | (apply v_c; (iterate 4 exact rfl); (focus (first | exact e1)); (iterate 2 exact rfl)) | refine u_l ?_ | refine u_o ?_ | refine u_q ?_ | refine u_lr ?_ | refine u_qr ?_ | refine u_ls ?_ | refine u_qs ?_ | refine u_t ?_ | refine u_f ?_ | refine v_s ?_ | refine v_o ?_ | refine v_on ?_ | refine v_og ?_ | refine v_q ?_ | refine v_sr ?_ | refine v_k ?_ | refine m_nil ?_)
    refine hcl [] [(30000, 600), (30001, 99)] c1 ?_
    repeat (first | refine awp_seq ?_ | refine then_n ?_ | refine then_r ?_ | refine then_x ?_ | refine block_n ?_ | refine block_r ?_ | refine block_x ?_ | refine u_y ?_ | refine loop_r ?_ | refine loop_x ?_ | refine awp_region ?_ | refine awpL_nil ?_ | refine awpQL_nil ?_ | refine awp_block ?_ | refine awp_skip ?_ | refine awp_exit ?_ | refine awp_label ?_ | refine u_l ?_ | refine u_o ?_ | refine u_q ?_ | refine u_lr ?_ | refine u_qr ?_ | refine u_ls ?_ | refine u_qs ?_ | refine u_t ?_ | refine u_f ?_ | refine v_s ?_ | refine v_o ?_ | refine v_on ?_ | refine v_og ?_ | refine v_q ?_ | refine v_sr ?_ | refine v_k ?_ | refine m_nil ?_)
    refine awp_freeze 99 rfl rfl ?_
    repeat (first | refine awp_seq ?_ | refine then_n ?_ | refine then_r ?_ | refine then_x ?_ | refine block_n ?_ | refine block_r ?_ | refine block_x ?_ | refine u_y ?_ | refine loop_r ?_ | refine loop_x ?_ | refine awp_region ?_ | refine awpL_nil ?_ | refine awpQL_nil ?_ | refine awp_block ?_ | refine awp_skip ?_ | refine awp_exit ?_ | refine awp_label ?_ | refine u_l ?_ | refine u_o ?_ | refine u_q ?_ | refine u_lr ?_ | refine u_qr ?_ | refine u_ls ?_ | refine u_qs ?_ | refine u_t ?_ | refine u_f ?_ | refine v_s ?_ | refine v_o ?_ | refine v_on ?_ | refine v_og ?_ | refine v_q ?_ | refine v_sr ?_ | refine v_k ?_ | refine m_nil ?_)
    refine awp_sub (s' := [(6, .ref 6 0), (10, .ref 600 0), (11, .d (.int .i64 (dn : Nat))), (12, .ref 12 0)]) (by ((repeat (first | exact trivial | (refine ⟨?_, ?_⟩; (focus (first | rfl | (simp [lk, argsS, args0]; done) | (simp [lk, argsS, args0]; omega)))))))) ?_
    refine awp_permTo [(6, .box [.d (.int .i64 0), .d (.int .i64 0), .d (.int .i64 0), .d (.int .i64 0), .d .nils, .d (.int .i64 0), .d .nils, .d (.int .i64 0), .d .nils, .d (.int .i64 0), .d .nils, .d .nils]), (12, .box [.d (.int .i64 n.st), .d (.int .i64 n.life), .d (.int .i64 n.tk), .d (.int .i64 n.d.life), .d (ints n.d.ord), .d (.int .i64 n.d.sure), .d (ints n.d.bel), .d (.int .i64 n.sv.life), .d (ints n.sv.ord), .d (.int .i64 n.sv.sure), .d (ints n.sv.bel), .d (.lst (n.wire.map pkD))]), (600, .box [.d (.int .i64 n.st), .d (.int .i64 n.life), .d (.int .i64 n.tk), .d (.int .i64 n.d.life), .d (ints n.d.ord), .d (.int .i64 n.d.sure), .d (ints n.d.bel), .d (.int .i64 n.sv.life), .d (ints n.sv.ord), .d (.int .i64 n.sv.sure), .d (ints n.sv.bel), .d (.lst (n.wire.map pkD)), .d (.int .i64 s), .d (rows nx), .d (ints lp)])] rfl ?_
    refine u_mJ [(5, [500, 501]), (11, [502, 503]), (17, [504]), (19, [12]), (21, [12]), (23, [12])] (.tk [500, 501, 502, 503, 504] [0, 1, 2, 3, 4, 6, 7, 8, 9, 10, 12, 13, 14, 15, 16] (.tk [] [5, 11, 17] (.tk [502, 503, 504] [18] (.tk [] [19] (.tk [502, 503, 504] [20] (.tk [] [21, 22, 23] .done))))))
      [(6, .ref 6 0), (11, .d (.int .i64 (dn : Nat))), (12, .ref 12 0)]
      [(6, .box [.d (.int .i64 0), .d (.int .i64 0), .d (.int .i64 0), .d (.int .i64 0), .d .nils, .d (.int .i64 0), .d .nils, .d (.int .i64 0), .d .nils, .d (.int .i64 0), .d .nils, .d .nils]),
       (12, .box [.d (.int .i64 n.st), .d (.int .i64 n.life), .d (.int .i64 n.tk), .d (.int .i64 n.d.life), .own 500, .d (.int .i64 n.d.sure), .own 501, .d (.int .i64 n.sv.life), .own 502, .d (.int .i64 n.sv.sure), .own 503, .own 504]),
       (500, .arr 2 1 (n.d.ord.map (.int .i64))), (501, .arr 2 1 (n.d.bel.map (.int .i64))), (502, .arr 2 1 (n.sv.ord.map (.int .i64))), (503, .arr 2 1 (n.sv.bel.map (.int .i64))), (504, .arr 90 4 (n.wire.map pkD)),
       (600, .box [.d (.int .i64 n.st), .d (.int .i64 n.life), .d (.int .i64 n.tk), .d (.int .i64 n.d.life), .d (ints n.d.ord), .d (.int .i64 n.d.sure), .d (ints n.d.bel), .d (.int .i64 n.sv.life), .d (ints n.sv.ord), .d (.int .i64 n.sv.sure), .d (ints n.sv.bel), .d (.lst (n.wire.map pkD)), .d (.int .i64 s), .d (rows nx), .d (ints lp)])] ?_ ?_
    · repeat (first | refine awp_seq ?_ | refine then_n ?_ | refine then_r ?_ | refine then_x ?_ | refine block_n ?_ | refine block_r ?_ | refine block_x ?_ | refine u_y ?_ | refine loop_r ?_ | refine loop_x ?_ | refine awp_region ?_ | refine awpL_nil ?_ | refine awpQL_nil ?_ | refine awp_block ?_ | refine awp_skip ?_ | refine awp_exit ?_ | refine awp_label ?_ | refine u_dT ?_ | refine u_d ?_ | refine u_l ?_ | refine u_o ?_ | refine u_q ?_ | refine u_lr ?_ | refine u_qr ?_ | refine u_ls ?_ | refine u_qs ?_ | refine u_t ?_ | refine u_f ?_ | refine v_s ?_ | refine v_o ?_ | refine v_on ?_ | refine v_og ?_ | refine v_q ?_ | refine v_sr ?_ | refine v_k ?_ | refine m_nil ?_)
      refine hclM [] [(30000, 500), (30001, 501)] c2 ?_
      refine hclM [] [(30000, 502), (30001, 503)] c3 ?_
      refine hclM [] [(30000, 504)] c4 ?_
      refine v_s ?_
      apply v_on (ho := ?ho) (he := ?he)
      case ho => (intro rest; apply wo_storeAggS; (iterate 6 exact rfl))
      case he => exact keep_set rfl _
      refine v_s ?_
      apply v_on (ho := ?ho) (he := ?he)
      case ho => (intro rest; apply wo_storeAggS; (iterate 6 exact rfl))
      case he => exact keep_set rfl _
      refine v_s ?_
      apply v_on (ho := ?ho) (he := ?he)
      case ho => (intro rest; apply wo_store; (iterate 7 exact rfl))
      case he => exact keep_set rfl _
      refine m_nil ?_
      exact ⟨by ((repeat (first | exact trivial | (refine ⟨?_, ?_⟩; (focus (first | rfl | (simp [lk, argsS, args0]; done) | (simp [lk, argsS, args0]; omega))))))), perm_of_sort rfl⟩
    repeat (first | refine awp_seq ?_ | refine then_n ?_ | refine then_r ?_ | refine then_x ?_ | refine block_n ?_ | refine block_r ?_ | refine block_x ?_ | refine u_y ?_ | refine loop_r ?_ | refine loop_x ?_ | refine awp_region ?_ | refine awpL_nil ?_ | refine awpQL_nil ?_ | refine awp_block ?_ | refine awp_skip ?_ | refine awp_exit ?_ | refine awp_label ?_ | refine u_dT ?_ | refine u_d ?_ | refine u_l ?_ | refine u_o ?_ | refine u_q ?_ | refine u_lr ?_ | refine u_qr ?_ | refine u_ls ?_ | refine u_qs ?_ | refine u_t ?_ | refine u_f ?_ | refine v_s ?_ | refine v_o ?_ | refine v_on ?_ | refine v_og ?_ | refine v_q ?_ | refine v_sr ?_ | refine v_k ?_ | refine m_nil ?_)
    (refine awp_ret ?_; (repeat (first | refine then_r ?_ | refine block_r ?_ | refine loop_r ?_)); refine u_rH [(500, 30000), (501, 30001), (502, 30002), (503, 30003), (504, 30004)] ?_ ?_)
    · rfl
    · rfl
  · rw [if_neg ha]
    generalize askC s st nx lp ds = c at *
    unfold ltD laS i64C wrC at *
    refine hc_intro tabIs _ Tryz.func18 rfl rfl Tryz.ntmps18 rfl rfl rfl ?_ fun w0 ok0 XM XA anc => ?_
    · exact likeIn_nil
    repeat (first | refine awp_seq ?_ | refine then_n ?_ | refine then_r ?_ | refine then_x ?_ | refine block_n ?_ | refine block_r ?_ | refine block_x ?_ | refine u_y ?_ | refine loop_r ?_ | refine loop_x ?_ | refine awp_region ?_ | refine awpL_nil ?_ | refine awpQL_nil ?_ | refine awp_block ?_ | refine awp_skip ?_ | refine awp_exit ?_ | refine awp_label ?_ | refine u_dT ?_ | refine u_d ?_ | ((first | apply c_l | apply c_q | apply c_lr | apply c_qr); (iterate 2 exact rfl); (focus (first | exact e1)); (iterate 2 exact rfl)) | (apply v_c; (iterate 4 exact rfl); (focus (first | exact e1)); (iterate 2 exact rfl)) | refine u_l ?_ | refine u_o ?_ | refine u_q ?_ | refine u_lr ?_ | refine u_qr ?_ | refine u_ls ?_ | refine u_qs ?_ | refine u_t ?_ | refine u_f ?_ | refine v_s ?_ | refine v_o ?_ | refine v_on ?_ | refine v_og ?_ | refine v_q ?_ | refine v_sr ?_ | refine v_k ?_ | refine m_nil ?_)
    refine awp_nilCell 6 4 500 2 1 rfl rfl rfl rfl rfl ?_
    refine awp_nilCell 6 6 501 2 1 rfl rfl rfl rfl rfl ?_
    refine awp_nilCell 6 8 502 2 1 rfl rfl rfl rfl rfl ?_
    refine awp_nilCell 6 10 503 2 1 rfl rfl rfl rfl rfl ?_
    refine awp_nilCell 6 11 504 90 4 rfl rfl rfl rfl rfl ?_
    (refine awp_ret ?_; (repeat (first | refine then_r ?_ | refine block_r ?_ | refine loop_r ?_)); refine u_rH [(500, 30000), (501, 30001), (502, 30002), (503, 30003), (504, 30004)] ?_ ?_)
    · rfl
    · rfl
end Go.Proofs.YtampglcgipefnaaGreat

/-! The law of LineAfter. No condition. -/
namespace Go.Proofs.YtampglcgipefnaaGreat
open Go
attribute [local irreducible] awp awpL awpQL awpQ awpM pWalk Qt AC thenQ blockQ loopQ OpTo
set_option linter.unusedVariables false
set_option linter.unusedSimpArgs false
set_option maxHeartbeats 2000000
attribute [local irreducible] HC

attribute [local semireducible] awpL in
theorem awpL_sub {cx : Cx} {ops : Array Oper} {s s' : Slots} {h : Heap} {Q : Exit → Slots → Heap → Prop} {l : List Oper} (hs : Subs s s') (hc : awpL cx ops l s' h Q) : awpL cx ops l s h Q := fun a w hr => hc a w (R_sub hr hs.all)
theorem laD_len {s st : Int} {nx : List (List Int)} {lp : List Int} {ds : List (Int × Int)} : (laD s st nx lp ds).1.d.ord.length ≤ 60 ∧ (laD s st nx lp ds).1.d.bel.length ≤ 10 ∧ (laD s st nx lp ds).1.sv.ord.length ≤ 60 ∧ (laD s st nx lp ds).1.sv.bel.length ≤ 10 ∧ (laD s st nx lp ds).1.wire.length ≤ 10 := by
  unfold laD
  split
  · rename_i ha
    obtain ⟨hv, hst, hd, hl⟩ := ask_ok ha
    have v := lv_of hv
    have h := runF_ok hv ds (ln0_ok (nx := nx) hst) hd
    have := v.s1
    exact ⟨h.d.len, h.d.bel_len (by omega), h.sv.len, h.sv.bel_len (by omega), h.wl⟩
  · simp [lnZ]

theorem law_ExactLineAfter {s st : Int} {nx : List (List Int)} {lp : List Int} {ds : List (Int × Int)} (g1 : I64 s) (h1 : RowsOk nx) (h2 : IntsOk lp) (g5 : I64 st) (h3 : ds.length ≤ 9223372036854775807) :
    AC Tryz.prog 4 [ltD s nx lp, .int .i64 st, deedsD ds] (.bool true) := by
  have hl := h2.2
  have hb : (0 : Int) ≤ 1048576 ∧ (1048576 : Int) ≤ 1048576 := by omega
  have e1 := laws_szLit (s := s) (nx := nx) (lp := lp) (left := 1048576) h1 hl hb
  by_cases hc : szLitF nx lp 1048576 < 0
  · unfold ltD
    refine ac_intro tabIs _ Tryz.func4 rfl rfl Tryz.ntmps4 rfl rfl fun w0 ok0 => ?_
    repeat (first | refine awp_seq ?_ | refine then_n ?_ | refine then_r ?_ | refine then_x ?_ | refine block_n ?_ | refine block_r ?_ | refine block_x ?_ | refine u_y ?_ | refine loop_r ?_ | refine loop_x ?_ | refine awp_region ?_ | refine awpL_nil ?_ | refine awpQL_nil ?_ | refine awp_block ?_ | refine awp_skip ?_ | refine awp_exit ?_ | refine awp_label ?_ | refine u_dT ?_ | refine u_d ?_ | ((first | apply c_l | apply c_q | apply c_lr | apply c_qr); (iterate 2 exact rfl); (focus (first | exact e1)); (iterate 2 exact rfl)) | (apply v_c; (iterate 4 exact rfl); (focus (first | exact e1)); (iterate 2 exact rfl)) | refine u_l ?_ | refine u_o ?_ | refine u_q ?_ | refine u_lr ?_ | refine u_qr ?_ | refine u_ls ?_ | refine u_qs ?_ | refine u_t ?_ | refine u_f ?_ | refine v_s ?_ | refine v_o ?_ | refine v_on ?_ | refine v_og ?_ | refine v_q ?_ | refine v_sr ?_ | refine v_k ?_ | refine m_nil ?_)
    (refine awp_ret ?_; (repeat (first | refine then_r ?_ | refine block_r ?_ | refine loop_r ?_)); apply ret_ok (.inr rfl); (focus exact rfl))
    rfl
  · obtain ⟨a1, a2, a3⟩ := szLitF_ok hc
    have hle := szLit_le hc
    have e2 := laws_szDeedS (ds := ds) (left := szLitF nx lp 1048576) h3 hle
    by_cases hc2 : szL ds.length (szLitF nx lp 1048576) < 0
    · generalize szLitF nx lp 1048576 = left at *
      generalize szL ds.length left = left2 at *
      unfold ltD
      refine ac_intro tabIs _ Tryz.func4 rfl rfl Tryz.ntmps4 rfl rfl fun w0 ok0 => ?_
      repeat (first | refine awp_seq ?_ | refine then_n ?_ | refine then_r ?_ | refine then_x ?_ | refine block_n ?_ | refine block_r ?_ | refine block_x ?_ | refine u_y ?_ | refine loop_r ?_ | refine loop_x ?_ | refine awp_region ?_ | refine awpL_nil ?_ | refine awpQL_nil ?_ | refine awp_block ?_ | refine awp_skip ?_ | refine awp_exit ?_ | refine awp_label ?_ | refine u_dT ?_ | refine u_d ?_ | ((first | apply c_l | apply c_q | apply c_lr | apply c_qr); (iterate 2 exact rfl); (focus (first | exact e1 | exact e2)); (iterate 2 exact rfl)) | (apply v_c; (iterate 4 exact rfl); (focus (first | exact e1 | exact e2)); (iterate 2 exact rfl)) | refine u_l ?_ | refine u_o ?_ | refine u_q ?_ | refine u_lr ?_ | refine u_qr ?_ | refine u_ls ?_ | refine u_qs ?_ | refine u_t ?_ | refine u_f ?_ | refine v_s ?_ | refine v_o ?_ | refine v_on ?_ | refine v_og ?_ | refine v_q ?_ | refine v_sr ?_ | refine v_k ?_ | refine m_nil ?_)
      (refine awp_ret ?_; (repeat (first | refine then_r ?_ | refine block_r ?_ | refine loop_r ?_)); apply ret_ok (.inr rfl); (focus exact rfl))
      rfl
    · have hdl : ds.length ≤ 1048576 := by
        have := (szL_le (n := ds.length) (left := szLitF nx lp 1048576) (by omega)).2 (by omega)
        omega
      have t1 := laws_toLit (s := s) a1 a2 a3
      have t2 := laws_toDeedS hdl
      have t3 := laws_toLitH (s := s) a1 a2 a3
      have t4 := laws_toDeedSH hdl
      have f1 := spec_LineAfter (s := s) (st := st) (ds := ds) h1 hl hdl
      have f2 := impl_LineAfterH (s := s) (st := st) (ds := ds) h1 hl hdl
      have f3 := impl_LineAfterH (s := s) (st := st) (ds := ds) h1 hl hdl
      have hbl := laD_len (s := s) (st := st) (nx := nx) (lp := lp) (ds := ds)
      unfold ltD at f1 f2 f3
      rw [← rws_dat] at f3
      have htot := tot_bound a2
      have htb : tot nx ≤ 1048576 * 1048576 := Nat.le_trans htot (Nat.mul_le_mul_right _ a1)
      have m1 := laws_markLit (s := s) (nx := nx) (lp := lp) (k := 1) (by omega) (by omega) (by omega)
      have m2 := laws_markDeedS (ds := ds) (k := 1 + tot nx + lp.length) (by omega) (by omega)
      generalize laD s st nx lp ds = o at *
      obtain ⟨n, dn, cd⟩ := o
      dsimp only at hbl f1 f2 f3
      obtain ⟨b1, b2, b3, b4, b5⟩ := hbl
      have hM : 0 ≤ lnM n 1 ∧ lnM n 1 ≤ 1000 := by unfold lnM; omega
      have m3 := laws_markLine (n := n) (k := 1) (by omega) (by omega)
      have d3 := laws_heldLine (n := n) (k := 1) (by omega) (by omega)
      have q1 := laws_eqLine (n := n) b1 b2 b3 b4 b5
      generalize lnM n 1 = M at *
      have q2 := laws_eqDeedS hdl
      have q3 : AC Tryz.prog 15 [.agg [.int .i64 s, .lst ((rws nx).map D.lst), ints lp], .agg [.int .i64 s, rows nx, ints lp]] (.bool true) := by
        have := laws_eqLit (s := s) (s' := s) (nx := nx) (nx' := nx) (lp := lp) (lp' := lp) h1 h1 hl hl
        rw [rws_dat]
        simpa using this
      generalize szLitF nx lp 1048576 = left at *
      generalize szL ds.length left = left2 at *
      unfold deedsD lnL laS lnHp mkLn i64C wrC at *
      dsimp only at m3 d3
      unfold ltD
      refine ac_intro tabIs _ Tryz.func4 rfl rfl Tryz.ntmps4 rfl rfl fun w0 ok0 => ?_
      repeat (first | refine awp_seq ?_ | refine then_n ?_ | refine then_r ?_ | refine then_x ?_ | refine block_n ?_ | refine block_r ?_ | refine block_x ?_ | refine u_y ?_ | refine loop_r ?_ | refine loop_x ?_ | refine awp_region ?_ | refine awpL_nil ?_ | refine awpQL_nil ?_ | refine awp_block ?_ | refine awp_skip ?_ | refine awp_exit ?_ | refine awp_label ?_ | refine u_dT ?_ | refine u_d ?_ | ((first | apply c_l | apply c_q | apply c_lr | apply c_qr); (iterate 2 exact rfl); (focus (first | exact e1 | exact e2)); (iterate 2 exact rfl)) | (apply v_c; (iterate 4 exact rfl); (focus (first | exact e1 | exact e2)); (iterate 2 exact rfl)) | refine u_l ?_ | refine u_o ?_ | refine u_q ?_ | refine u_lr ?_ | refine u_qr ?_ | refine u_ls ?_ | refine u_qs ?_ | refine u_t ?_ | refine u_f ?_ | refine v_s ?_ | refine v_o ?_ | refine v_on ?_ | refine v_og ?_ | refine v_q ?_ | refine v_sr ?_ | refine v_k ?_ | refine m_nil ?_)
      (apply c_l; (iterate 2 exact rfl); (focus exact t1); (iterate 2 exact rfl))
      repeat (first | refine awp_seq ?_ | refine then_n ?_ | refine then_r ?_ | refine then_x ?_ | refine block_n ?_ | refine block_r ?_ | refine block_x ?_ | refine u_y ?_ | refine loop_r ?_ | refine loop_x ?_ | refine awp_region ?_ | refine awpL_nil ?_ | refine awpQL_nil ?_ | refine awp_block ?_ | refine awp_skip ?_ | refine awp_exit ?_ | refine awp_label ?_ | refine u_dT ?_ | refine u_d ?_ | refine u_l ?_ | refine u_o ?_ | refine u_q ?_ | refine u_lr ?_ | refine u_qr ?_ | refine u_ls ?_ | refine u_qs ?_ | refine u_t ?_ | refine u_f ?_ | refine v_s ?_ | refine v_o ?_ | refine v_on ?_ | refine v_og ?_ | refine v_q ?_ | refine v_sr ?_ | refine v_k ?_ | refine m_nil ?_)
      (apply c_l; (iterate 2 exact rfl); (focus exact t2); (iterate 2 exact rfl))
      repeat (first | refine awp_seq ?_ | refine then_n ?_ | refine then_r ?_ | refine then_x ?_ | refine block_n ?_ | refine block_r ?_ | refine block_x ?_ | refine u_y ?_ | refine loop_r ?_ | refine loop_x ?_ | refine awp_region ?_ | refine awpL_nil ?_ | refine awpQL_nil ?_ | refine awp_block ?_ | refine awp_skip ?_ | refine awp_exit ?_ | refine awp_label ?_ | refine u_dT ?_ | refine u_d ?_ | ((first | apply c_l | apply c_q | apply c_lr | apply c_qr); (iterate 2 exact rfl); (focus (first | exact f1)); (iterate 2 exact rfl)) | (apply v_c; (iterate 4 exact rfl); (focus (first | exact f1)); (iterate 2 exact rfl)) | refine u_l ?_ | refine u_o ?_ | refine u_q ?_ | refine u_lr ?_ | refine u_qr ?_ | refine u_ls ?_ | refine u_qs ?_ | refine u_t ?_ | refine u_f ?_ | refine v_s ?_ | refine v_o ?_ | refine v_on ?_ | refine v_og ?_ | refine v_q ?_ | refine v_sr ?_ | refine v_k ?_ | refine m_nil ?_)
      refine hcl [] [(30000, 500), (30001, 501)] t3 ?_
      repeat (first | refine awp_seq ?_ | refine then_n ?_ | refine then_r ?_ | refine then_x ?_ | refine block_n ?_ | refine block_r ?_ | refine block_x ?_ | refine u_y ?_ | refine loop_r ?_ | refine loop_x ?_ | refine awp_region ?_ | refine awpL_nil ?_ | refine awpQL_nil ?_ | refine awp_block ?_ | refine awp_skip ?_ | refine awp_exit ?_ | refine awp_label ?_ | refine u_dT ?_ | refine u_d ?_ | refine u_l ?_ | refine u_o ?_ | refine u_q ?_ | refine u_lr ?_ | refine u_qr ?_ | refine u_ls ?_ | refine u_qs ?_ | refine u_t ?_ | refine u_f ?_ | refine v_s ?_ | refine v_o ?_ | refine v_on ?_ | refine v_og ?_ | refine v_q ?_ | refine v_sr ?_ | refine v_k ?_ | refine m_nil ?_)
      refine hcl [] [(30000, 502)] t4 ?_
      repeat (first | refine awp_seq ?_ | refine then_n ?_ | refine then_r ?_ | refine then_x ?_ | refine block_n ?_ | refine block_r ?_ | refine block_x ?_ | refine u_y ?_ | refine loop_r ?_ | refine loop_x ?_ | refine awp_region ?_ | refine awpL_nil ?_ | refine awpQL_nil ?_ | refine awp_block ?_ | refine awp_skip ?_ | refine awp_exit ?_ | refine awp_label ?_ | refine u_dT ?_ | refine u_d ?_ | refine u_l ?_ | refine u_o ?_ | refine u_q ?_ | refine u_lr ?_ | refine u_qr ?_ | refine u_ls ?_ | refine u_qs ?_ | refine u_t ?_ | refine u_f ?_ | refine v_s ?_ | refine v_o ?_ | refine v_on ?_ | refine v_og ?_ | refine v_q ?_ | refine v_sr ?_ | refine v_k ?_ | refine m_nil ?_)
      refine hlend (xs := [.agg [.int .i64 s, .lst ((rws nx).map D.lst), ints lp], .int .i64 st, .lst (ds.map deedD)]) (cap := []) [(30000, 503), (30001, 504), (30002, 505), (30003, 506), (30004, 507)] f3 ?_ ?_ ?_
      · intro p hp
        simp at hp
        rcases hp with rfl | rfl | rfl | rfl | rfl
        all_goals
          intro x hx
          simp at hx
          obtain ⟨a, _, rfl⟩ := hx
          rfl
      · repeat (first | exact trivial | exact rfl | refine ⟨?_, ?_⟩)
      refine awpL_sub (s' := [(1, .d (.int .i64 st)), (2, .d (.lst (ds.map deedD))), (3, .d (.ptr (.agg [.int .i64 s, rows nx, ints lp]))), (8, .ref 8 0), (9, .d (.int .i64 (dn : Nat))), (10, .d (.int .i64 cd)), (11, .ref 11 0), (12, .own 502), (50, .tup [.agg [.d (.int .i64 n.st), .d (.int .i64 n.life), .d (.int .i64 n.tk), .d (.int .i64 n.d.life), .own 503, .d (.int .i64 n.d.sure), .own 504, .d (.int .i64 n.sv.life), .own 505, .d (.int .i64 n.sv.sure), .own 506, .own 507], .d (.int .i64 (dn : Nat)), .d (.int .i64 cd)])]) (by ((repeat (first | exact trivial | (refine ⟨?_, ?_⟩; (focus (first | rfl | (simp [lk, argsS, args0]; done) | (simp [lk, argsS, args0]; omega)))))))) ?_
      refine awpL_perm [(8, .box [.d (.int .i64 n.st), .d (.int .i64 n.life), .d (.int .i64 n.tk), .d (.int .i64 n.d.life), .d (ints n.d.ord), .d (.int .i64 n.d.sure), .d (ints n.d.bel), .d (.int .i64 n.sv.life), .d (ints n.sv.ord), .d (.int .i64 n.sv.sure), .d (ints n.sv.bel), .d (.lst (n.wire.map pkD))]), (11, .box [.d (.int .i64 s), .own 500, .own 501]), (500, .rows 25 2 1 (rws nx) none), (501, .arr 2 1 ((lp).map (.int .i64))), (502, .arr 74 2 (ds.map deedD)), (503, .arr 2 1 ((n.d.ord).map (.int .i64))), (504, .arr 2 1 ((n.d.bel).map (.int .i64))), (505, .arr 2 1 ((n.sv.ord).map (.int .i64))), (506, .arr 2 1 ((n.sv.bel).map (.int .i64))), (507, .arr 90 4 (n.wire.map pkD))] rfl ?_
      repeat (first | refine awp_seq ?_ | refine then_n ?_ | refine then_r ?_ | refine then_x ?_ | refine block_n ?_ | refine block_r ?_ | refine block_x ?_ | refine u_y ?_ | refine loop_r ?_ | refine loop_x ?_ | refine awp_region ?_ | refine awpL_nil ?_ | refine awpQL_nil ?_ | refine awp_block ?_ | refine awp_skip ?_ | refine awp_exit ?_ | refine awp_label ?_ | refine u_dT ?_ | refine u_d ?_ | ((first | apply c_l | apply c_q | apply c_lr | apply c_qr); (iterate 2 exact rfl); (focus (first | exact q1 | exact q2 | exact q3 | exact t1 | exact t2)); (iterate 2 exact rfl)) | (apply v_c; (iterate 4 exact rfl); (focus (first | exact q1 | exact q2 | exact q3 | exact t1 | exact t2)); (iterate 2 exact rfl)) | refine u_l ?_ | refine u_o ?_ | refine u_q ?_ | refine u_lr ?_ | refine u_qr ?_ | refine u_ls ?_ | refine u_qs ?_ | refine u_t ?_ | refine u_f ?_ | refine v_s ?_ | refine v_o ?_ | refine v_on ?_ | refine v_og ?_ | refine v_q ?_ | refine v_sr ?_ | refine v_k ?_ | refine m_nil ?_ | refine u_glt ?_ | refine u_glf ?_ | refine u_gqt ?_ | refine u_gqf ?_)
      refine awpL_sub (s' := [(1, .d (.int .i64 st)), (2, .d (.lst (ds.map deedD))), (3, .d (.ptr (.agg [.int .i64 s, rows nx, ints lp]))), (8, .ref 8 0), (9, .d (.int .i64 (dn : Nat))), (10, .d (.int .i64 cd)), (11, .ref 11 0), (12, .own 502), (13, .ref 13 0), (14, .d (.int .i64 (dn : Nat))), (15, .d (.int .i64 cd)), (16, .d (.int .i64 1)), (78, .agg [.d (.int .i64 s), .own 500, .own 501]), (79, .d (.int .i64 1))]) (by ((repeat (first | exact trivial | (refine ⟨?_, ?_⟩; (focus (first | rfl | (simp [lk, argsS, args0]; done) | (simp [lk, argsS, args0]; omega)))))))) ?_
      refine awpL_perm [(8, .box [.d (.int .i64 n.st), .d (.int .i64 n.life), .d (.int .i64 n.tk), .d (.int .i64 n.d.life), .d (ints n.d.ord), .d (.int .i64 n.d.sure), .d (ints n.d.bel), .d (.int .i64 n.sv.life), .d (ints n.sv.ord), .d (.int .i64 n.sv.sure), .d (ints n.sv.bel), .d (.lst (n.wire.map pkD))]), (11, .box [.d (.int .i64 s), .own 500, .own 501]), (13, .box [.d (.int .i64 n.st), .d (.int .i64 n.life), .d (.int .i64 n.tk), .d (.int .i64 n.d.life), .own 503, .d (.int .i64 n.d.sure), .own 504, .d (.int .i64 n.sv.life), .own 505, .d (.int .i64 n.sv.sure), .own 506, .own 507]), (500, .rows 25 2 1 (rws nx) none), (501, .arr 2 1 ((lp).map (.int .i64))), (502, .arr 74 2 ((ds).map deedD)), (503, .arr 2 1 ((n.d.ord).map (.int .i64))), (504, .arr 2 1 ((n.d.bel).map (.int .i64))), (505, .arr 2 1 ((n.sv.ord).map (.int .i64))), (506, .arr 2 1 ((n.sv.bel).map (.int .i64))), (507, .arr 90 4 ((n.wire).map pkD))] rfl ?_
      refine hcl [(500, 10000), (501, 10001)] [(10000, 500), (10001, 501)] m1 ?_
      repeat (first | refine awp_seq ?_ | refine then_n ?_ | refine then_r ?_ | refine then_x ?_ | refine block_n ?_ | refine block_r ?_ | refine block_x ?_ | refine u_y ?_ | refine loop_r ?_ | refine loop_x ?_ | refine awp_region ?_ | refine awpL_nil ?_ | refine awpQL_nil ?_ | refine awp_block ?_ | refine awp_skip ?_ | refine awp_exit ?_ | refine awp_label ?_ | refine u_dT ?_ | refine u_d ?_ | refine u_l ?_ | refine u_o ?_ | refine u_q ?_ | refine u_lr ?_ | refine u_qr ?_ | refine u_ls ?_ | refine u_qs ?_ | refine u_t ?_ | refine u_f ?_ | refine v_s ?_ | refine v_o ?_ | refine v_on ?_ | refine v_og ?_ | refine v_q ?_ | refine v_sr ?_ | refine v_k ?_ | refine m_nil ?_)
      refine awpL_sub (s' := [(1, .d (.int .i64 st)), (2, .d (.lst (ds.map deedD))), (3, .d (.ptr (.agg [.int .i64 s, rows nx, ints lp]))), (8, .ref 8 0), (9, .d (.int .i64 (dn : Nat))), (10, .d (.int .i64 cd)), (11, .ref 11 0), (12, .own 502), (13, .ref 13 0), (14, .d (.int .i64 (dn : Nat))), (15, .d (.int .i64 cd)), (81, .own 502), (82, .d (.int .i64 (1 + tot nx + lp.length)))]) (by ((repeat (first | exact trivial | (refine ⟨?_, ?_⟩; (focus (first | rfl | (simp [lk, argsS, args0]; done) | (simp [lk, argsS, args0]; omega)))))))) ?_
      refine awpL_perm [(8, .box [.d (.int .i64 n.st), .d (.int .i64 n.life), .d (.int .i64 n.tk), .d (.int .i64 n.d.life), .d (ints n.d.ord), .d (.int .i64 n.d.sure), .d (ints n.d.bel), .d (.int .i64 n.sv.life), .d (ints n.sv.ord), .d (.int .i64 n.sv.sure), .d (ints n.sv.bel), .d (.lst (n.wire.map pkD))]), (11, .box [.d (.int .i64 s), .own 500, .own 501]), (13, .box [.d (.int .i64 n.st), .d (.int .i64 n.life), .d (.int .i64 n.tk), .d (.int .i64 n.d.life), .own 503, .d (.int .i64 n.d.sure), .own 504, .d (.int .i64 n.sv.life), .own 505, .d (.int .i64 n.sv.sure), .own 506, .own 507]), (500, .rows 25 2 1 (rws (mkR 1 nx)) none), (501, .arr 2 1 ((mk1 (1 + tot nx) lp.length).map (.int .i64))), (502, .arr 74 2 ((ds).map deedD)), (503, .arr 2 1 ((n.d.ord).map (.int .i64))), (504, .arr 2 1 ((n.d.bel).map (.int .i64))), (505, .arr 2 1 ((n.sv.ord).map (.int .i64))), (506, .arr 2 1 ((n.sv.bel).map (.int .i64))), (507, .arr 90 4 ((n.wire).map pkD))] rfl ?_
      refine hcl [(502, 10000)] [(10000, 502)] m2 ?_
      repeat (first | refine awp_seq ?_ | refine then_n ?_ | refine then_r ?_ | refine then_x ?_ | refine block_n ?_ | refine block_r ?_ | refine block_x ?_ | refine u_y ?_ | refine loop_r ?_ | refine loop_x ?_ | refine awp_region ?_ | refine awpL_nil ?_ | refine awpQL_nil ?_ | refine awp_block ?_ | refine awp_skip ?_ | refine awp_exit ?_ | refine awp_label ?_ | refine u_dT ?_ | refine u_d ?_ | ((first | apply c_l | apply c_q | apply c_lr | apply c_qr); (iterate 2 exact rfl); (focus (first | exact q1)); (iterate 2 exact rfl)) | (apply v_c; (iterate 4 exact rfl); (focus (first | exact q1)); (iterate 2 exact rfl)) | refine u_l ?_ | refine u_o ?_ | refine u_q ?_ | refine u_lr ?_ | refine u_qr ?_ | refine u_ls ?_ | refine u_qs ?_ | refine u_t ?_ | refine u_f ?_ | refine v_s ?_ | refine v_o ?_ | refine v_on ?_ | refine v_og ?_ | refine v_q ?_ | refine v_sr ?_ | refine v_k ?_ | refine m_nil ?_ | refine u_glt ?_ | refine u_glf ?_ | refine u_gqt ?_ | refine u_gqf ?_)
      refine awpL_sub (s' := [(1, .d (.int .i64 st)), (2, .d (.lst (ds.map deedD))), (3, .d (.ptr (.agg [.int .i64 s, rows nx, ints lp]))), (8, .ref 8 0), (9, .d (.int .i64 (dn : Nat))), (10, .d (.int .i64 cd)), (11, .ref 11 0), (12, .own 502), (13, .ref 13 0), (14, .d (.int .i64 (dn : Nat))), (15, .d (.int .i64 cd)), (17, .d (.int .i64 1)), (102, .agg [.d (.int .i64 n.st), .d (.int .i64 n.life), .d (.int .i64 n.tk), .d (.int .i64 n.d.life), .own 503, .d (.int .i64 n.d.sure), .own 504, .d (.int .i64 n.sv.life), .own 505, .d (.int .i64 n.sv.sure), .own 506, .own 507]), (103, .d (.int .i64 1))]) (by ((repeat (first | exact trivial | (refine ⟨?_, ?_⟩; (focus (first | rfl | (simp [lk, argsS, args0]; done) | (simp [lk, argsS, args0]; omega)))))))) ?_
      refine awpL_perm [(8, .box [.d (.int .i64 n.st), .d (.int .i64 n.life), .d (.int .i64 n.tk), .d (.int .i64 n.d.life), .d (ints n.d.ord), .d (.int .i64 n.d.sure), .d (ints n.d.bel), .d (.int .i64 n.sv.life), .d (ints n.sv.ord), .d (.int .i64 n.sv.sure), .d (ints n.sv.bel), .d (.lst (n.wire.map pkD))]), (11, .box [.d (.int .i64 s), .own 500, .own 501]), (13, .box [.d (.int .i64 n.st), .d (.int .i64 n.life), .d (.int .i64 n.tk), .d (.int .i64 n.d.life), .own 503, .d (.int .i64 n.d.sure), .own 504, .d (.int .i64 n.sv.life), .own 505, .d (.int .i64 n.sv.sure), .own 506, .own 507]), (500, .rows 25 2 1 (rws (mkR 1 nx)) none), (501, .arr 2 1 ((mk1 (1 + tot nx) lp.length).map (.int .i64))), (502, .arr 74 2 ((mkDs (1 + tot nx + lp.length) ds.length).map deedD)), (503, .arr 2 1 ((n.d.ord).map (.int .i64))), (504, .arr 2 1 ((n.d.bel).map (.int .i64))), (505, .arr 2 1 ((n.sv.ord).map (.int .i64))), (506, .arr 2 1 ((n.sv.bel).map (.int .i64))), (507, .arr 90 4 ((n.wire).map pkD))] rfl ?_
      refine hcl [(503, 10000), (504, 10001), (505, 10002), (506, 10003), (507, 10004)] [(10000, 503), (10001, 504), (10002, 505), (10003, 506), (10004, 507)] m3 ?_
      repeat (first | refine awp_seq ?_ | refine then_n ?_ | refine then_r ?_ | refine then_x ?_ | refine block_n ?_ | refine block_r ?_ | refine block_x ?_ | refine u_y ?_ | refine loop_r ?_ | refine loop_x ?_ | refine awp_region ?_ | refine awpL_nil ?_ | refine awpQL_nil ?_ | refine awp_block ?_ | refine awp_skip ?_ | refine awp_exit ?_ | refine awp_label ?_ | refine u_dT ?_ | refine u_d ?_ | ((first | apply c_l | apply c_q | apply c_lr | apply c_qr); (iterate 2 exact rfl); (focus (first | exact d3)); (iterate 2 exact rfl)) | (apply v_c; (iterate 4 exact rfl); (focus (first | exact d3)); (iterate 2 exact rfl)) | refine u_l ?_ | refine u_o ?_ | refine u_q ?_ | refine u_lr ?_ | refine u_qr ?_ | refine u_ls ?_ | refine u_qs ?_ | refine u_t ?_ | refine u_f ?_ | refine v_s ?_ | refine v_o ?_ | refine v_on ?_ | refine v_og ?_ | refine v_q ?_ | refine v_sr ?_ | refine v_k ?_ | refine m_nil ?_)
      (apply c_l; (iterate 2 exact rfl); (focus exact t1); (iterate 2 exact rfl))
      repeat (first | refine awp_seq ?_ | refine then_n ?_ | refine then_r ?_ | refine then_x ?_ | refine block_n ?_ | refine block_r ?_ | refine block_x ?_ | refine u_y ?_ | refine loop_r ?_ | refine loop_x ?_ | refine awp_region ?_ | refine awpL_nil ?_ | refine awpQL_nil ?_ | refine awp_block ?_ | refine awp_skip ?_ | refine awp_exit ?_ | refine awp_label ?_ | refine u_dT ?_ | refine u_d ?_ | refine u_l ?_ | refine u_o ?_ | refine u_q ?_ | refine u_lr ?_ | refine u_qr ?_ | refine u_ls ?_ | refine u_qs ?_ | refine u_t ?_ | refine u_f ?_ | refine v_s ?_ | refine v_o ?_ | refine v_on ?_ | refine v_og ?_ | refine v_q ?_ | refine v_sr ?_ | refine v_k ?_ | refine m_nil ?_)
      (apply c_l; (iterate 2 exact rfl); (focus exact t2); (iterate 2 exact rfl))
      repeat (first | refine awp_seq ?_ | refine then_n ?_ | refine then_r ?_ | refine then_x ?_ | refine block_n ?_ | refine block_r ?_ | refine block_x ?_ | refine u_y ?_ | refine loop_r ?_ | refine loop_x ?_ | refine awp_region ?_ | refine awpL_nil ?_ | refine awpQL_nil ?_ | refine awp_block ?_ | refine awp_skip ?_ | refine awp_exit ?_ | refine awp_label ?_ | refine u_dT ?_ | refine u_d ?_ | refine u_l ?_ | refine u_o ?_ | refine u_q ?_ | refine u_lr ?_ | refine u_qr ?_ | refine u_ls ?_ | refine u_qs ?_ | refine u_t ?_ | refine u_f ?_ | refine v_s ?_ | refine v_o ?_ | refine v_on ?_ | refine v_og ?_ | refine v_q ?_ | refine v_sr ?_ | refine v_k ?_ | refine m_nil ?_)
      refine awpL_sub (s' := [(1, .d (.int .i64 st)), (2, .d (.lst (ds.map deedD))), (3, .d (.ptr (.agg [.int .i64 s, rows nx, ints lp]))), (8, .ref 8 0), (9, .d (.int .i64 (dn : Nat))), (10, .d (.int .i64 cd)), (11, .ref 11 0), (12, .own 502), (13, .ref 13 0), (14, .d (.int .i64 (dn : Nat))), (15, .d (.int .i64 cd)), (17, .d (.int .i64 M)), (115, .d (.agg [.int .i64 s, rows nx, ints lp])), (116, .d (.int .i64 st)), (118, .d (.lst (ds.map deedD)))]) (by ((repeat (first | exact trivial | (refine ⟨?_, ?_⟩; (focus (first | rfl | (simp [lk, argsS, args0]; done) | (simp [lk, argsS, args0]; omega)))))))) ?_
      refine awpL_perm [(8, .box [.d (.int .i64 n.st), .d (.int .i64 n.life), .d (.int .i64 n.tk), .d (.int .i64 n.d.life), .d (ints n.d.ord), .d (.int .i64 n.d.sure), .d (ints n.d.bel), .d (.int .i64 n.sv.life), .d (ints n.sv.ord), .d (.int .i64 n.sv.sure), .d (ints n.sv.bel), .d (.lst (n.wire.map pkD))]), (11, .box [.d (.int .i64 s), .own 500, .own 501]), (13, .box [.d (.int .i64 n.st), .d (.int .i64 n.life), .d (.int .i64 n.tk), .d (.int .i64 n.d.life), .own 503, .d (.int .i64 n.d.sure), .own 504, .d (.int .i64 n.sv.life), .own 505, .d (.int .i64 n.sv.sure), .own 506, .own 507]), (500, .rows 25 2 1 (rws (mkR 1 nx)) none), (501, .arr 2 1 ((mk1 (1 + tot nx) lp.length).map (.int .i64))), (502, .arr 74 2 ((mkDs (1 + tot nx + lp.length) ds.length).map deedD)), (503, .arr 2 1 ((mk1 (1) n.d.ord.length).map (.int .i64))), (504, .arr 2 1 ((mk1 (1 + n.d.ord.length) n.d.bel.length).map (.int .i64))), (505, .arr 2 1 ((mk1 (1 + n.d.ord.length + n.d.bel.length) n.sv.ord.length).map (.int .i64))), (506, .arr 2 1 ((mk1 (1 + n.d.ord.length + n.d.bel.length + n.sv.ord.length) n.sv.bel.length).map (.int .i64))), (507, .arr 90 4 ((mkPk (1 + n.d.ord.length + n.d.bel.length + n.sv.ord.length + n.sv.bel.length) n.wire.length).map pkD))] rfl ?_
      refine hcl [] [(30000, 510), (30001, 511), (30002, 512), (30003, 513), (30004, 514)] f2 ?_
      repeat (first | refine awp_seq ?_ | refine then_n ?_ | refine then_r ?_ | refine then_x ?_ | refine block_n ?_ | refine block_r ?_ | refine block_x ?_ | refine u_y ?_ | refine loop_r ?_ | refine loop_x ?_ | refine awp_region ?_ | refine awpL_nil ?_ | refine awpQL_nil ?_ | refine awp_block ?_ | refine awp_skip ?_ | refine awp_exit ?_ | refine awp_label ?_ | refine u_dT ?_ | refine u_d ?_ | ((first | apply c_l | apply c_q | apply c_lr | apply c_qr); (iterate 2 exact rfl); (focus (first | exact q1 | exact d3)); (iterate 2 exact rfl)) | (apply v_c; (iterate 4 exact rfl); (focus (first | exact q1 | exact d3)); (iterate 2 exact rfl)) | refine u_l ?_ | refine u_o ?_ | refine u_q ?_ | refine u_lr ?_ | refine u_qr ?_ | refine u_ls ?_ | refine u_qs ?_ | refine u_t ?_ | refine u_f ?_ | refine v_s ?_ | refine v_o ?_ | refine v_on ?_ | refine v_og ?_ | refine v_q ?_ | refine v_sr ?_ | refine v_k ?_ | refine m_nil ?_ | refine u_glt ?_ | refine u_glf ?_ | refine u_gqt ?_ | refine u_gqf ?_)
      (refine awp_ret ?_; (repeat (first | refine then_r ?_ | refine block_r ?_ | refine loop_r ?_)); apply ret_ok (.inr rfl); (focus exact rfl))
      rfl
end Go.Proofs.YtampglcgipefnaaGreat
