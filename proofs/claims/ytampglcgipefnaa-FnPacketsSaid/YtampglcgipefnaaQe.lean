/- Lines are compared in the reference; a packet that comes in twice does what it does once; the law of packets. No condition. -/
import Derived.Test.YtampglcgipefnaaQd
import Derived.Test.YtampglcgipefnaaFwSe
namespace Go.Proofs.Ytampglcgipefnaa
open Go
attribute [local irreducible] awp awpL awpQL awpQ awpM pWalk Qt AC thenQ blockQ loopQ OpTo
set_option linter.unusedVariables false
set_option linter.unusedSimpArgs false
set_option maxHeartbeats 2000000
attribute [local irreducible] HC

theorem spec_SameDesk {d : Dsk} (h1 : d.ord.length ≤ 1000) (h2 : d.bel.length ≤ 1000) : AC Try.prog 12 [dskD d, dskD d] (.bool true) := by
  have e1 := spec_l00Same (a := d.ord) (b := d.ord) (by omega) (by omega)
  have e2 := spec_l00Same (a := d.bel) (b := d.bel) (by omega) (by omega)
  rw [decide_eq_true rfl] at e1 e2
  unfold dskD dskL
  refine ac_intro tabIs _ Try.func12 rfl rfl Try.ntmps12 rfl rfl fun w0 ok0 => ?_
  repeat (first | refine awp_seq ?_ | refine then_n ?_ | refine then_r ?_ | refine then_x ?_ | refine block_n ?_ | refine block_r ?_ | refine block_x ?_ | refine u_y ?_ | refine loop_r ?_ | refine loop_x ?_ | refine awp_region ?_ | refine awpL_nil ?_ | refine awpQL_nil ?_ | refine awp_block ?_ | refine awp_skip ?_ | refine awp_exit ?_ | refine awp_label ?_ | refine u_dT ?_ | refine u_d ?_ | ((first | apply c_l | apply c_q | apply c_lr | apply c_qr); (iterate 2 exact rfl); (focus (first | exact e1 | exact e2)); (iterate 2 exact rfl)) | (apply v_c; (iterate 4 exact rfl); (focus (first | exact e1 | exact e2)); (iterate 2 exact rfl)) | refine u_l ?_ | refine u_o ?_ | refine u_q ?_ | refine u_lr ?_ | refine u_qr ?_ | refine u_ls ?_ | refine u_qs ?_ | refine u_t ?_ | refine u_f ?_ | refine v_s ?_ | refine v_o ?_ | refine v_on ?_ | refine v_og ?_ | refine v_q ?_ | refine v_sr ?_ | refine v_k ?_ | refine m_nil ?_ | refine u_glt ?_ | refine u_glf ?_ | refine u_gqt ?_ | refine u_gqf ?_)
  (refine awp_ret ?_; (repeat (first | refine then_r ?_ | refine block_r ?_ | refine loop_r ?_)); apply ret_ok (.inr rfl); (focus exact rfl))
  simp
theorem flat_pk : flatS Try.prog 72 [true, false, false, false] = true := by kernel_rfl
theorem qa_neqPk {cx : Cx} {h : Heap} {s : Nat → SV} {dst : Option Nat} {ty : Nat} {pos : String} {af : Array Edge} {gd : Option (Nat × Bool)} {t t' : Nat} {x y : Operand} {xs ys : List D} (hx : opv s x = .d (.agg xs)) (hy : opv s y = .d (.agg ys)) (ht : t = 72) (hP : cx.P = Try.prog) (h1 : flatD [true, false, false, false] xs = true) (h2 : flatD [true, false, false, false] ys = true) :
    Qt cx h ⟨dst, .binOp .neq t x y t', ty, pos, af, gd⟩ s (.d (.bool (!eqD xs ys))) := by
  subst ht
  exact qa_neqS [true, false, false, false] hx hy (by rw [hP]; exact flat_pk) h1 h2
theorem spec_SameLine {n : Ln} (h1 : n.d.ord.length ≤ 1000) (h2 : n.d.bel.length ≤ 1000) (h3 : n.sv.ord.length ≤ 1000) (h4 : n.sv.bel.length ≤ 1000) (h5 : n.wire.length ≤ 1000) : AC Try.prog 11 [.agg (lnL n), .agg (lnL n)] (.bool true) := by
  have e1 := spec_SameDesk h1 h2
  have e2 := spec_SameDesk h3 h4
  have hwl : (n.wire.map pkD).length = n.wire.length := by simp
  unfold dskD dskL at e1 e2
  unfold lnL
  refine ac_intro tabIs _ Try.func11 rfl rfl Try.ntmps11 rfl rfl fun w0 ok0 => ?_
  repeat (first | refine awp_seq ?_ | refine then_n ?_ | refine then_r ?_ | refine then_x ?_ | refine block_n ?_ | refine block_r ?_ | refine block_x ?_ | refine u_y ?_ | refine loop_r ?_ | refine loop_x ?_ | refine awp_region ?_ | refine awpL_nil ?_ | refine awpQL_nil ?_ | refine awp_block ?_ | refine awp_skip ?_ | refine awp_exit ?_ | refine awp_label ?_ | refine u_dT ?_ | refine u_d ?_ | refine u_l ?_ | refine u_o ?_ | refine u_q ?_ | refine u_lr ?_ | refine u_qr ?_ | refine u_ls ?_ | refine u_qs ?_ | refine u_t ?_ | refine u_f ?_ | refine v_s ?_ | refine v_o ?_ | refine v_on ?_ | refine v_og ?_ | refine v_q ?_ | refine v_sr ?_ | refine v_k ?_ | refine m_nil ?_ | refine u_glt ?_ | refine u_glf ?_ | refine u_gqt ?_ | refine u_gqf ?_)
  refine awp_loop (fun k : Nat => k ≤ n.wire.length) (fun k => [(2, .d (.ptr (.agg (lnL n)))), (3, .d (.ptr (.agg (lnL n)))), (5, .d (.int .i64 k))]) (fun k => []) (fun k => n.wire.length - k) 0 (by omega) ?_ rfl ?_
  · ((repeat (first | exact trivial | (refine ⟨?_, ?_⟩; (focus (first | rfl | (simp [lk, argsS, args0]; done) | (simp [lk, argsS, args0]; omega)))))))
  · intro k hk
    unfold lnL
    by_cases hlt : k < n.wire.length
    · have hx := pk_at (l := n.wire) (a := k) (by omega)
      have hq := eqD_refl (bs := [true, false, false, false]) (xs := [.bool (n.wire.getD ((k : Int).toNat) pk0).rep, .int .i64 (n.wire.getD ((k : Int).toNat) pk0).life, .int .i64 (n.wire.getD ((k : Int).toNat) pk0).num, .int .i64 (n.wire.getD ((k : Int).toNat) pk0).val]) rfl
      unfold pkD at hx
      generalize n.wire.getD ((k : Int).toNat) pk0 = p at *
      have hq2 : (!eqD [.bool p.rep, .int .i64 p.life, .int .i64 p.num, .int .i64 p.val] [.bool p.rep, .int .i64 p.life, .int .i64 p.num, .int .i64 p.val]) = false := by rw [hq]; rfl
      repeat (first | refine awp_seq ?_ | refine then_n ?_ | refine then_r ?_ | refine then_x ?_ | refine block_n ?_ | refine block_r ?_ | refine block_x ?_ | refine u_y ?_ | refine loop_r ?_ | refine loop_x ?_ | refine awp_region ?_ | refine awpL_nil ?_ | refine awpQL_nil ?_ | refine awp_block ?_ | refine awp_skip ?_ | refine awp_exit ?_ | refine awp_label ?_ | refine u_dT ?_ | refine u_d ?_ | ((first | apply x_l | apply x_q | apply x_lr | apply x_qr); (focus (first | (apply qa_neqPk; (iterate 6 (focus (first | exact rfl | (first | assumption | omega | (simp; omega) | (simp; done) | rfl))))))); exact rfl) | (apply v_x; (iterate 2 exact rfl); (focus (intro ok0 nw hle; (first | (apply qa_neqPk; (iterate 6 (focus (first | exact rfl | (first | assumption | omega | (simp; omega) | (simp; done) | rfl)))))))); (iterate 2 exact rfl)) | refine u_l ?_ | refine u_o ?_ | refine u_q ?_ | refine u_lr ?_ | refine u_qr ?_ | refine u_ls ?_ | refine u_qs ?_ | refine u_t ?_ | refine u_f ?_ | refine v_s ?_ | refine v_o ?_ | refine v_on ?_ | refine v_og ?_ | refine v_q ?_ | refine v_sr ?_ | refine v_k ?_ | refine m_nil ?_)
      refine loop_n (k + 1) (by omega) ?_ rfl (by omega)
      ((repeat (first | exact trivial | (refine ⟨?_, ?_⟩; (focus (first | rfl | (simp [lk, argsS, args0]; done) | (simp [lk, argsS, args0]; omega)))))))
    · repeat (first | refine awp_seq ?_ | refine then_n ?_ | refine then_r ?_ | refine then_x ?_ | refine block_n ?_ | refine block_r ?_ | refine block_x ?_ | refine u_y ?_ | refine loop_r ?_ | refine loop_x ?_ | refine awp_region ?_ | refine awpL_nil ?_ | refine awpQL_nil ?_ | refine awp_block ?_ | refine awp_skip ?_ | refine awp_exit ?_ | refine awp_label ?_ | refine u_dT ?_ | refine u_d ?_ | ((first | apply c_l | apply c_q | apply c_lr | apply c_qr); (iterate 2 exact rfl); (focus (first | exact e1 | exact e2)); (iterate 2 exact rfl)) | (apply v_c; (iterate 4 exact rfl); (focus (first | exact e1 | exact e2)); (iterate 2 exact rfl)) | refine u_l ?_ | refine u_o ?_ | refine u_q ?_ | refine u_lr ?_ | refine u_qr ?_ | refine u_ls ?_ | refine u_qs ?_ | refine u_t ?_ | refine u_f ?_ | refine v_s ?_ | refine v_o ?_ | refine v_on ?_ | refine v_og ?_ | refine v_q ?_ | refine v_sr ?_ | refine v_k ?_ | refine m_nil ?_ | refine u_glt ?_ | refine u_glf ?_ | refine u_gqt ?_ | refine u_gqf ?_)
      (refine awp_ret ?_; (repeat (first | refine then_r ?_ | refine block_r ?_ | refine loop_r ?_)); apply ret_ok (.inr rfl); (focus exact rfl))
      rfl

theorem imgL_nil {nx : List (List Int)} {l : List Int} (h : l.Pairwise (· < ·)) : imgL nx l [] = l := by
  obtain ⟨i1, i2⟩ := imgL_spec nx l []
  refine ris_ext i1 h fun y => (i2 y).trans ⟨?_, fun h => ⟨y, h, rfl⟩⟩
  rintro ⟨q, hq, e⟩
  have e : y = q := e
  rw [e]; exact hq
theorem readF_idem {s : Int} {nx : List (List Int)} {lp : List Int} {k : Nat} {d : Dsk} {p : Pk} (v : LV s nx lp) (h : DskOk s nx d) (hp : PkOk s nx k p) : readF s nx lp (readF s nx lp d p) p = readF s nx lp d p := by
  have h1 := readF_ok v h hp
  have ho : ∀ d' : Dsk, p.life ≤ d'.life → openF s d' p = d' := fun d' hd => if_neg (by omega)
  have hlf : p.life ≤ (openF s d p).life := by
    unfold openF
    split
    · exact Int.le_refl _
    · omega
  unfold readF at h1 ⊢
  generalize openF s d p = e at *
  by_cases hc : p.life = e.life ∧ e.sure ≤ p.num ∧ p.num ≤ e.ord.length
  · rw [if_pos hc] at h1 ⊢
    rw [ho ⟨e.life, e.ord, p.num, List.filter (fun q => decide (lamp lp q = p.val)) (imgL nx e.bel (seg e.ord e.sure p.num))⟩ hlf]
    dsimp only
    rw [if_pos ⟨hc.1, Int.le_refl _, hc.2.2⟩]
    have hs : seg e.ord p.num p.num = [] := by simp [seg]
    rw [hs, imgL_nil h1.ris]
    simp [List.filter_filter]
  · rw [if_neg hc]
    rw [ho _ hlf, if_neg hc]
theorem inF_idem {s : Int} {nx : List (List Int)} {lp : List Int} {k : Nat} {n : Ln} {p : Pk} (v : LV s nx lp) (h : DskOk s nx n.d) (hp : PkOk s nx k p) : inF s nx lp (inF s nx lp n p) p = inF s nx lp n p := by
  unfold inF
  by_cases hr : p.rep = true
  · simp only [hr, if_true]
    rw [readF_idem v h hp]
  · simp only [hr, Bool.false_eq_true, if_false]
    by_cases hc : p.life = n.life ∧ p.num = n.tk
    · rw [if_pos hc]
      dsimp only
      rw [if_neg (by omega)]
    · rw [if_neg hc, if_neg hc]
theorem inF_set {s : Int} {nx : List (List Int)} {lp : List Int} {n : Ln} {p : Pk} : { inF s nx lp n p with wire := n.wire } = inF s nx lp n p := by
  have := inF_wire (s := s) (nx := nx) (lp := lp) (n := n) (p := p)
  generalize inF s nx lp n p = m at *
  cases m
  simp at this ⊢
  exact this.symm
/-- A packet that comes in. -/
theorem do_in {s a : Int} {nx : List (List Int)} {lp : List Int} {n : Ln} (c : Int) (hc : c = 4 ∨ c = 5 ∨ c = 6) (ha : a < n.wire.length) : (doF s nx lp n c a).1 = { (if c = 6 then n else inF s nx lp n (n.wire.getD a.toNat pk0)) with wire := if c = 5 then n.wire else n.wire.eraseIdx a.toNat } := by
  unfold doF
  rw [if_neg (by omega), if_neg (by omega), if_neg (by omega), if_neg (by omega), if_neg (by omega), if_neg (by omega), if_neg (by omega)]
theorem twice {s a : Int} {nx : List (List Int)} {lp : List Int} {k : Nat} {n : Ln} (v : LV s nx lp) (h : LnOk s nx k n) (h0 : 0 ≤ a) (ha : a < n.wire.length) : runF s nx lp n [(5, a), (4, a)] = runF s nx lp n [(4, a)] := by
  have hp : n.wire.getD a.toNat pk0 ∈ n.wire := by
    have : a.toNat < n.wire.length := by omega
    rw [List.getD_eq_getElem?_getD, List.getElem?_eq_getElem this]
    exact List.getElem_mem this
  show (doF s nx lp (doF s nx lp n 5 a).1 4 a).1 = (doF s nx lp n 4 a).1
  have e5 := do_in (s := s) (nx := nx) (lp := lp) (n := n) 5 (by omega) ha
  rw [if_neg (by decide), if_pos rfl, inF_set] at e5
  rw [e5, do_in 4 (by omega) (by rw [inF_wire]; exact ha), do_in 4 (by omega) ha, if_neg (by decide), if_neg (by decide), if_neg (by decide), if_neg (by decide), inF_wire, inF_idem v h.d (h.wire _ hp)]
theorem lost {s a : Int} {nx : List (List Int)} {lp : List Int} {n : Ln} (h0 : 0 ≤ a) (ha : a < n.wire.length) : runF s nx lp n [(6, a)] = { n with wire := n.wire.eraseIdx a.toNat } := by
  show (doF s nx lp n 6 a).1 = _
  rw [do_in 6 (by omega) ha, if_pos rfl, if_neg (by decide)]
theorem report_wire {s : Int} {nx : List (List Int)} {lp : List Int} {n : Ln} : 1 ≤ (runF s nx lp n [(3, 0)]).wire.length := by
  show 1 ≤ (doF s nx lp n 3 0).1.wire.length
  unfold doF sendF
  rw [if_neg (by decide), if_neg (by decide), if_pos rfl]
  split <;> simp <;> omega

theorem law_FnPackets {code more : List Int} (hb : BytesOk code) (hm : BytesOk more) : AC Try.prog 3 [u8s code, u8s more] (.bool true) := by
  have eL := laws_a2Long (a := code) (b := more)
  by_cases hl : (decide (3000 < code.length) || decide (3000 < more.length)) = true
  · rw [hl] at eL
    refine ac_intro tabIs _ Try.func3 rfl rfl Try.ntmps3 rfl rfl fun w0 ok0 => ?_
    repeat (first | refine awp_seq ?_ | refine then_n ?_ | refine then_r ?_ | refine then_x ?_ | refine block_n ?_ | refine block_r ?_ | refine block_x ?_ | refine u_y ?_ | refine loop_r ?_ | refine loop_x ?_ | refine awp_region ?_ | refine awpL_nil ?_ | refine awpQL_nil ?_ | refine awp_block ?_ | refine awp_skip ?_ | refine awp_exit ?_ | refine awp_label ?_ | refine u_dT ?_ | refine u_d ?_ | ((first | apply c_l | apply c_q | apply c_lr | apply c_qr); (iterate 2 exact rfl); (focus (first | exact eL)); (iterate 2 exact rfl)) | (apply v_c; (iterate 4 exact rfl); (focus (first | exact eL)); (iterate 2 exact rfl)) | refine u_l ?_ | refine u_o ?_ | refine u_q ?_ | refine u_lr ?_ | refine u_qr ?_ | refine u_ls ?_ | refine u_qs ?_ | refine u_t ?_ | refine u_f ?_ | refine v_s ?_ | refine v_o ?_ | refine v_on ?_ | refine v_og ?_ | refine v_q ?_ | refine v_sr ?_ | refine v_k ?_ | refine m_nil ?_)
    (refine awp_ret ?_; (repeat (first | refine then_r ?_ | refine block_r ?_ | refine loop_r ?_)); apply ret_ok (.inr rfl); (focus exact rfl))
    rfl
  · rw [Bool.not_eq_true] at hl
    rw [hl] at eL
    have eA := spec_A2Lit hb
    have hv := drawn_ok hb
    generalize (drA code ⟨0, 0⟩).1 = s at *
    generalize (drA code ⟨0, 0⟩).2.1 = nx at *
    generalize (drP code ⟨0, 0⟩).1 = lp at *
    have v := lv_of hv
    have hs1 := v.s1
    have eT := laws_a2At (b := more) (n := s) hm (by omega)
    have hst := atV_range (b := more) (n := s) (by omega)
    generalize atV more s = st at *
    have eD := spec_A2DeedsH (s := s) (st := st) (nx := nx) (lp := lp) hm hv hst
    obtain ⟨hdl, hdv⟩ := dsV_ok (code := more) (s := s) (st := st) (nx := nx) (lp := lp) hm hv hst
    generalize dsV more s st nx lp = ds at *
    have hle : (ds.map deedD).length = ds.length := by simp
    have hv1 : ∀ p ∈ ds ++ [(3, 0)], vdeed p.1 p.2 = true := fun p hp => by
      rcases List.mem_append.1 hp with h | h
      · exact hdv p h
      · simp at h; subst h; simp [vdeed, inB, dtell, dtold]
    have c1 := impl_LineAfter (st := st) hv hst hv1 (by simp; omega)
    have hD1 : deedsD (ds ++ [(3, 0)]) = .lst (ds.map deedD ++ [deedD (3, 0)]) := by simp [deedsD]
    rw [hD1] at c1
    have hln := runF_ok hv (ds ++ [(3, 0)]) (ln0_ok (nx := nx) hst) fun p hp => ddOk_of (hv1 p hp)
    have hw1 : 1 ≤ (runF s nx lp (ln0 s st) (ds ++ [(3, 0)])).wire.length := by rw [runF_append]; exact report_wire
    have hrun : ∀ q, runF s nx lp (ln0 s st) (ds ++ [(3, 0)] ++ q) = runF s nx lp (runF s nx lp (ln0 s st) (ds ++ [(3, 0)])) q := fun q => runF_append _ _ _
    have hL : ∀ q : List (Int × Int), q.length ≤ 3 → (∀ p ∈ q, vdeed p.1 p.2 = true) → AC Try.prog 10 [ltD s nx lp, .int .i64 st, deedsD (ds ++ [(3, 0)] ++ q)] (.tup [.agg (lnL (runF s nx lp (runF s nx lp (ln0 s st) (ds ++ [(3, 0)])) q)), .int .i64 (doneF (codesF s nx lp (ln0 s st) (ds ++ [(3, 0)] ++ q)) : Nat), .int .i64 0]) := fun q hq hqv => by
      rw [← hrun]
      refine impl_LineAfter hv hst (fun p hp => ?_) (by simp; omega)
      rcases List.mem_append.1 hp with h | h
      · exact hv1 p h
      · exact hqv p h
    have hdn : ∀ q : List (Int × Int), ∃ d : Nat, doneF (codesF s nx lp (ln0 s st) (ds ++ [(3, 0)] ++ q)) = d := fun q => ⟨_, rfl⟩
    generalize runF s nx lp (ln0 s st) (ds ++ [(3, 0)]) = n at *
    generalize doneF (codesF s nx lp (ln0 s st) (ds ++ [(3, 0)])) = dn at *
    have hwl : (n.wire.map pkD).length = n.wire.length := by simp
    have hw10 := hln.wl
    have eT2 := laws_a2At (b := code) (n := ((n.wire.map pkD).length : Nat)) hb (by omega)
    have hat := atV_range (b := code) (n := ((n.wire.map pkD).length : Nat)) (by omega)
    generalize atV code ((n.wire.map pkD).length : Nat) = a at *
    have hva : ∀ k : Int, k = 4 ∨ k = 5 ∨ k = 6 → vdeed k a = true := fun k hk => by
      rcases hk with rfl | rfl | rfl <;> simp [vdeed, inB, dtell, dtold] <;> omega
    have l1 := hL [(4, a)] (by simp) (fun p hp => by simp at hp; subst hp; exact hva _ (by simp))
    have l2 := hL [(5, a), (4, a)] (by simp) (fun p hp => by simp at hp; rcases hp with rfl | rfl <;> exact hva _ (by simp))
    have l3 := hL [(6, a)] (by simp) (fun p hp => by simp at hp; subst hp; exact hva _ (by simp))
    rw [twice v hln hat.1 (by omega)] at l2
    rw [lost hat.1 (by omega)] at l3
    have hok4 : LnOk s nx _ (runF s nx lp n [(4, a)]) := doF_ok hv hln (ddOk_of (hva 4 (by simp)))
    have e9 := spec_SameLine (n := runF s nx lp n [(4, a)]) (by have := hok4.d.len; omega) (by have := hok4.d.bel_len (by omega); omega) (by have := hok4.sv.len; omega) (by have := hok4.sv.bel_len (by omega); omega) (by have := hok4.wl; omega)
    have e8 := spec_SameDesk (d := n.d) (by have := hln.d.len; omega) (by have := hln.d.bel_len (by omega); omega)
    obtain ⟨d1, hd1⟩ := hdn [(4, a)]
    obtain ⟨d2, hd2⟩ := hdn [(5, a), (4, a)]
    obtain ⟨d3, hd3⟩ := hdn [(6, a)]
    rw [hd1] at l1
    rw [hd2] at l2
    rw [hd3] at l3
    generalize runF s nx lp n [(4, a)] = m at *
    have hE1 : deedsD (ds ++ [(3, 0)] ++ [(4, a)]) = .lst (([] ++ (ds.map deedD ++ [deedD (3, 0)])) ++ [deedD (4, a)]) := by simp [deedsD]
    have hE2 : deedsD (ds ++ [(3, 0)] ++ [(5, a), (4, a)]) = .lst (([] ++ (ds.map deedD ++ [deedD (3, 0)])) ++ [deedD (5, a), deedD (4, a)]) := by simp [deedsD]
    have hE3 : deedsD (ds ++ [(3, 0)] ++ [(6, a)]) = .lst (([] ++ (ds.map deedD ++ [deedD (3, 0)])) ++ [deedD (6, a)]) := by simp [deedsD]
    rw [hE1] at l1
    rw [hE2] at l2
    rw [hE3] at l3
    have hel : elsOk 2 (ds.map deedD ++ [deedD (3, 0)]) = true := elsOk_of fun y hy => by
      rcases List.mem_append.1 hy with h | h
      · obtain ⟨p, _, rfl⟩ := List.mem_map.1 h
        exact ⟨rfl, rfl⟩
      · simp at h; subst h; exact ⟨rfl, rfl⟩
    have hll : (ds.map deedD ++ [deedD (3, 0)]).length = ds.length + 1 := by simp
    have her : (n.wire.eraseIdx a.toNat).length = n.wire.length - 1 := by rw [List.length_eraseIdx, if_pos (by omega)]
    have herl : ((n.wire.eraseIdx a.toNat).map pkD).length = (n.wire.eraseIdx a.toNat).length := by simp
    clear hL hrun hdn hdv hv1
    unfold ltD lnL dskD dskL at *
    refine ac_intro tabIs _ Try.func3 rfl rfl Try.ntmps3 rfl rfl fun w0 ok0 => ?_
    repeat (first | refine awp_seq ?_ | refine then_n ?_ | refine then_r ?_ | refine then_x ?_ | refine block_n ?_ | refine block_r ?_ | refine block_x ?_ | refine u_y ?_ | refine loop_r ?_ | refine loop_x ?_ | refine awp_region ?_ | refine awpL_nil ?_ | refine awpQL_nil ?_ | refine awp_block ?_ | refine awp_skip ?_ | refine awp_exit ?_ | refine awp_label ?_ | refine u_dT ?_ | refine u_d ?_ | ((first | apply c_l | apply c_q | apply c_lr | apply c_qr); (iterate 2 exact rfl); (focus (first | exact eL | exact eA | exact eT)); (iterate 2 exact rfl)) | (apply v_c; (iterate 4 exact rfl); (focus (first | exact eL | exact eA | exact eT)); (iterate 2 exact rfl)) | refine u_l ?_ | refine u_o ?_ | refine u_q ?_ | refine u_lr ?_ | refine u_qr ?_ | refine u_ls ?_ | refine u_qs ?_ | refine u_t ?_ | refine u_f ?_ | refine v_s ?_ | refine v_o ?_ | refine v_on ?_ | refine v_og ?_ | refine v_q ?_ | refine v_sr ?_ | refine v_k ?_ | refine m_nil ?_)
    refine hcl [] [(30000, 300)] eD ?_
    repeat (first | refine awp_seq ?_ | refine then_n ?_ | refine then_r ?_ | refine then_x ?_ | refine block_n ?_ | refine block_r ?_ | refine block_x ?_ | refine u_y ?_ | refine loop_r ?_ | refine loop_x ?_ | refine awpL_nil ?_ | refine awpQL_nil ?_ | refine awp_block ?_ | refine awp_skip ?_ | refine awp_exit ?_ | refine awp_label ?_ | refine u_dT ?_ | refine u_d ?_ | refine u_l ?_ | refine u_o ?_ | refine u_q ?_ | refine u_lr ?_ | refine u_qr ?_ | refine u_ls ?_ | refine u_qs ?_ | refine u_t ?_ | refine u_f ?_ | refine v_s ?_ | refine v_o ?_ | refine v_on ?_ | refine v_og ?_ | refine v_q ?_ | refine v_sr ?_ | refine v_k ?_ | refine m_nil ?_)
    refine awp_region ?_
    repeat (first | refine awp_seq ?_ | refine then_n ?_ | refine then_r ?_ | refine then_x ?_ | refine block_n ?_ | refine block_r ?_ | refine block_x ?_ | refine u_y ?_ | refine loop_r ?_ | refine loop_x ?_ | refine awpL_nil ?_ | refine awpQL_nil ?_ | refine awp_block ?_ | refine awp_skip ?_ | refine awp_exit ?_ | refine awp_label ?_ | refine u_dT ?_ | refine u_d ?_ | refine u_l ?_ | refine u_o ?_ | refine u_q ?_ | refine u_lr ?_ | refine u_qr ?_ | refine u_ls ?_ | refine u_qs ?_ | refine u_t ?_ | refine u_f ?_ | refine v_s ?_ | refine v_o ?_ | refine v_on ?_ | refine v_og ?_ | refine v_q ?_ | refine v_sr ?_ | refine v_k ?_ | refine m_nil ?_)
    refine awp_freeze 300 rfl rfl ?_
    refine awp_sub (s' := [(0, .d (u8s code)), (1, .d (u8s more)), (5, .ref 5 0), (6, .d (.int .i64 st)), (7, .d (.lst (ds.map deedD ++ [deedD (3, 0)])))]) (by ((repeat (first | exact trivial | (refine ⟨?_, ?_⟩; (focus (first | rfl | (simp [lk, argsS, args0]; done) | (simp [lk, argsS, args0]; omega)))))))) ?_
    refine awp_permTo [(5, .box [.d (.int .i64 s), .d (rows nx), .d (ints lp)])] rfl ?_
    refine awp_region ?_
    repeat (first | refine awp_seq ?_ | refine then_n ?_ | refine then_r ?_ | refine then_x ?_ | refine block_n ?_ | refine block_r ?_ | refine block_x ?_ | refine u_y ?_ | refine loop_r ?_ | refine loop_x ?_ | refine awpL_nil ?_ | refine awpQL_nil ?_ | refine awp_block ?_ | refine awp_skip ?_ | refine awp_exit ?_ | refine awp_label ?_ | refine u_dT ?_ | refine u_d ?_ | ((first | apply c_l | apply c_q | apply c_lr | apply c_qr); (iterate 2 exact rfl); (focus (first | exact c1)); (iterate 2 exact rfl)) | (apply v_c; (iterate 4 exact rfl); (focus (first | exact c1)); (iterate 2 exact rfl)) | refine u_l ?_ | refine u_o ?_ | refine u_q ?_ | refine u_lr ?_ | refine u_qr ?_ | refine u_ls ?_ | refine u_qs ?_ | refine u_t ?_ | refine u_f ?_ | refine v_s ?_ | refine v_o ?_ | refine v_on ?_ | refine v_og ?_ | refine v_q ?_ | refine v_sr ?_ | refine v_k ?_ | refine m_nil ?_)
    refine awp_sub (s' := [(0, .d (u8s code)), (1, .d (u8s more)), (5, .ref 5 0), (6, .d (.int .i64 st)), (7, .d (.lst (ds.map deedD ++ [deedD (3, 0)]))), (8, .ref 8 0), (10, .d (.int .i64 0))]) (by ((repeat (first | exact trivial | (refine ⟨?_, ?_⟩; (focus (first | rfl | (simp [lk, argsS, args0]; done) | (simp [lk, argsS, args0]; omega)))))))) ?_
    refine awp_permTo [(5, .box [.d (.int .i64 s), .d (rows nx), .d (ints lp)]), (8, .box [.d (.int .i64 n.st), .d (.int .i64 n.life), .d (.int .i64 n.tk), .d (.int .i64 n.d.life), .d (ints n.d.ord), .d (.int .i64 n.d.sure), .d (ints n.d.bel), .d (.int .i64 n.sv.life), .d (ints n.sv.ord), .d (.int .i64 n.sv.sure), .d (ints n.sv.bel), .d (.lst (n.wire.map pkD))])] rfl ?_
    refine awp_region ?_
    repeat (first | refine awp_seq ?_ | refine then_n ?_ | refine then_r ?_ | refine then_x ?_ | refine block_n ?_ | refine block_r ?_ | refine block_x ?_ | refine u_y ?_ | refine loop_r ?_ | refine loop_x ?_ | refine awpL_nil ?_ | refine awpQL_nil ?_ | refine awp_block ?_ | refine awp_skip ?_ | refine awp_exit ?_ | refine awp_label ?_ | refine u_dT ?_ | refine u_d ?_ | refine u_l ?_ | refine u_o ?_ | refine u_q ?_ | refine u_lr ?_ | refine u_qr ?_ | refine u_ls ?_ | refine u_qs ?_ | refine u_t ?_ | refine u_f ?_ | refine v_s ?_ | refine v_o ?_ | refine v_on ?_ | refine v_og ?_ | refine v_q ?_ | refine v_sr ?_ | refine v_k ?_ | refine m_nil ?_ | refine u_glt ?_ | refine u_glf ?_ | refine u_gqt ?_ | refine u_gqf ?_)
    refine awp_region ?_
    repeat (first | refine awp_seq ?_ | refine then_n ?_ | refine then_r ?_ | refine then_x ?_ | refine block_n ?_ | refine block_r ?_ | refine block_x ?_ | refine u_y ?_ | refine loop_r ?_ | refine loop_x ?_ | refine awpL_nil ?_ | refine awpQL_nil ?_ | refine awp_block ?_ | refine awp_skip ?_ | refine awp_exit ?_ | refine awp_label ?_ | refine u_dT ?_ | refine u_d ?_ | ((first | apply c_l | apply c_q | apply c_lr | apply c_qr); (iterate 2 exact rfl); (focus (first | exact eT2)); (iterate 2 exact rfl)) | (apply v_c; (iterate 4 exact rfl); (focus (first | exact eT2)); (iterate 2 exact rfl)) | refine u_l ?_ | refine u_o ?_ | refine u_q ?_ | refine u_lr ?_ | refine u_qr ?_ | refine u_ls ?_ | refine u_qs ?_ | refine u_t ?_ | refine u_f ?_ | refine v_s ?_ | refine v_o ?_ | refine v_on ?_ | refine v_og ?_ | refine v_q ?_ | refine v_sr ?_ | refine v_k ?_ | refine m_nil ?_ | refine u_glt ?_ | refine u_glf ?_ | refine u_gqt ?_ | refine u_gqf ?_)
    refine awp_region ?_
    repeat (first | refine v_w (t := 63) ?_ | refine awp_seq ?_ | refine then_n ?_ | refine then_r ?_ | refine then_x ?_ | refine block_n ?_ | refine block_r ?_ | refine block_x ?_ | refine u_y ?_ | refine loop_r ?_ | refine loop_x ?_ | refine awpL_nil ?_ | refine awpQL_nil ?_ | refine awp_block ?_ | refine awp_skip ?_ | refine awp_exit ?_ | refine awp_label ?_ | refine u_dT ?_ | refine u_d ?_ | refine u_w (t := 63) ?_ | refine u_l ?_ | refine u_o ?_ | refine u_q ?_ | refine u_lr ?_ | refine u_qr ?_ | refine u_ls ?_ | refine u_qs ?_ | refine u_t ?_ | refine u_f ?_ | refine v_s ?_ | refine v_o ?_ | refine v_on ?_ | refine v_og ?_ | refine v_q ?_ | refine v_sr ?_ | refine v_k ?_ | refine m_nil ?_ | refine u_glt ?_ | refine u_glf ?_ | refine u_gqt ?_ | refine u_gqf ?_)
    (apply lto; (focus (apply wo_append; (iterate 14 exact rfl); exact hel; (simp; omega))))
    repeat (first | refine awp_seq ?_ | refine then_n ?_ | refine then_r ?_ | refine then_x ?_ | refine block_n ?_ | refine block_r ?_ | refine block_x ?_ | refine u_y ?_ | refine loop_r ?_ | refine loop_x ?_ | refine awpL_nil ?_ | refine awpQL_nil ?_ | refine awp_block ?_ | refine awp_skip ?_ | refine awp_exit ?_ | refine awp_label ?_ | refine u_dT ?_ | refine u_d ?_ | refine u_l ?_ | refine u_o ?_ | refine u_q ?_ | refine u_lr ?_ | refine u_qr ?_ | refine u_ls ?_ | refine u_qs ?_ | refine u_t ?_ | refine u_f ?_ | refine v_s ?_ | refine v_o ?_ | refine v_on ?_ | refine v_og ?_ | refine v_q ?_ | refine v_sr ?_ | refine v_k ?_ | refine m_nil ?_ | refine u_glt ?_ | refine u_glf ?_ | refine u_gqt ?_ | refine u_gqf ?_)
    refine awp_freeze 63 rfl rfl ?_
    refine awp_sub (s' := [(0, .d (u8s code)), (1, .d (u8s more)), (5, .ref 5 0), (6, .d (.int .i64 st)), (7, .d (.lst (ds.map deedD ++ [deedD (3, 0)]))), (8, .ref 8 0), (11, .d (.int .i64 a)), (12, .d (.lst (([] ++ (ds.map deedD ++ [deedD (3, 0)])) ++ [deedD (4, a)])))]) (by ((repeat (first | exact trivial | (refine ⟨?_, ?_⟩; (focus (first | rfl | (simp [lk, argsS, args0]; done) | (simp [lk, argsS, args0]; omega)))))))) ?_
    refine awp_permTo [(5, .box [.d (.int .i64 s), .d (rows nx), .d (ints lp)]), (8, .box [.d (.int .i64 n.st), .d (.int .i64 n.life), .d (.int .i64 n.tk), .d (.int .i64 n.d.life), .d (ints n.d.ord), .d (.int .i64 n.d.sure), .d (ints n.d.bel), .d (.int .i64 n.sv.life), .d (ints n.sv.ord), .d (.int .i64 n.sv.sure), .d (ints n.sv.bel), .d (.lst (n.wire.map pkD))])] rfl ?_
    refine awp_region ?_
    repeat (first | refine v_w (t := 70) ?_ | refine awp_seq ?_ | refine then_n ?_ | refine then_r ?_ | refine then_x ?_ | refine block_n ?_ | refine block_r ?_ | refine block_x ?_ | refine u_y ?_ | refine loop_r ?_ | refine loop_x ?_ | refine awpL_nil ?_ | refine awpQL_nil ?_ | refine awp_block ?_ | refine awp_skip ?_ | refine awp_exit ?_ | refine awp_label ?_ | refine u_dT ?_ | refine u_d ?_ | refine u_w (t := 70) ?_ | refine u_l ?_ | refine u_o ?_ | refine u_q ?_ | refine u_lr ?_ | refine u_qr ?_ | refine u_ls ?_ | refine u_qs ?_ | refine u_t ?_ | refine u_f ?_ | refine v_s ?_ | refine v_o ?_ | refine v_on ?_ | refine v_og ?_ | refine v_q ?_ | refine v_sr ?_ | refine v_k ?_ | refine m_nil ?_ | refine u_glt ?_ | refine u_glf ?_ | refine u_gqt ?_ | refine u_gqf ?_)
    (apply lto; (focus (apply wo_append; (iterate 14 exact rfl); exact hel; (simp; omega))))
    repeat (first | refine awp_seq ?_ | refine then_n ?_ | refine then_r ?_ | refine then_x ?_ | refine block_n ?_ | refine block_r ?_ | refine block_x ?_ | refine u_y ?_ | refine loop_r ?_ | refine loop_x ?_ | refine awpL_nil ?_ | refine awpQL_nil ?_ | refine awp_block ?_ | refine awp_skip ?_ | refine awp_exit ?_ | refine awp_label ?_ | refine u_dT ?_ | refine u_d ?_ | refine u_l ?_ | refine u_o ?_ | refine u_q ?_ | refine u_lr ?_ | refine u_qr ?_ | refine u_ls ?_ | refine u_qs ?_ | refine u_t ?_ | refine u_f ?_ | refine v_s ?_ | refine v_o ?_ | refine v_on ?_ | refine v_og ?_ | refine v_q ?_ | refine v_sr ?_ | refine v_k ?_ | refine m_nil ?_ | refine u_glt ?_ | refine u_glf ?_ | refine u_gqt ?_ | refine u_gqf ?_)
    refine awp_freeze 70 rfl rfl ?_
    refine awp_sub (s' := [(0, .d (u8s code)), (1, .d (u8s more)), (5, .ref 5 0), (6, .d (.int .i64 st)), (7, .d (.lst (ds.map deedD ++ [deedD (3, 0)]))), (8, .ref 8 0), (11, .d (.int .i64 a)), (12, .d (.lst (([] ++ (ds.map deedD ++ [deedD (3, 0)])) ++ [deedD (4, a)]))), (13, .d (.lst (([] ++ (ds.map deedD ++ [deedD (3, 0)])) ++ [deedD (5, a), deedD (4, a)])))]) (by ((repeat (first | exact trivial | (refine ⟨?_, ?_⟩; (focus (first | rfl | (simp [lk, argsS, args0]; done) | (simp [lk, argsS, args0]; omega)))))))) ?_
    refine awp_permTo [(5, .box [.d (.int .i64 s), .d (rows nx), .d (ints lp)]), (8, .box [.d (.int .i64 n.st), .d (.int .i64 n.life), .d (.int .i64 n.tk), .d (.int .i64 n.d.life), .d (ints n.d.ord), .d (.int .i64 n.d.sure), .d (ints n.d.bel), .d (.int .i64 n.sv.life), .d (ints n.sv.ord), .d (.int .i64 n.sv.sure), .d (ints n.sv.bel), .d (.lst (n.wire.map pkD))])] rfl ?_
    refine awp_region ?_
    repeat (first | refine v_w (t := 79) ?_ | refine awp_seq ?_ | refine then_n ?_ | refine then_r ?_ | refine then_x ?_ | refine block_n ?_ | refine block_r ?_ | refine block_x ?_ | refine u_y ?_ | refine loop_r ?_ | refine loop_x ?_ | refine awpL_nil ?_ | refine awpQL_nil ?_ | refine awp_block ?_ | refine awp_skip ?_ | refine awp_exit ?_ | refine awp_label ?_ | refine u_dT ?_ | refine u_d ?_ | refine u_w (t := 79) ?_ | refine u_l ?_ | refine u_o ?_ | refine u_q ?_ | refine u_lr ?_ | refine u_qr ?_ | refine u_ls ?_ | refine u_qs ?_ | refine u_t ?_ | refine u_f ?_ | refine v_s ?_ | refine v_o ?_ | refine v_on ?_ | refine v_og ?_ | refine v_q ?_ | refine v_sr ?_ | refine v_k ?_ | refine m_nil ?_ | refine u_glt ?_ | refine u_glf ?_ | refine u_gqt ?_ | refine u_gqf ?_)
    (apply lto; (focus (apply wo_append; (iterate 14 exact rfl); exact hel; (simp; omega))))
    repeat (first | refine awp_seq ?_ | refine then_n ?_ | refine then_r ?_ | refine then_x ?_ | refine block_n ?_ | refine block_r ?_ | refine block_x ?_ | refine u_y ?_ | refine loop_r ?_ | refine loop_x ?_ | refine awpL_nil ?_ | refine awpQL_nil ?_ | refine awp_block ?_ | refine awp_skip ?_ | refine awp_exit ?_ | refine awp_label ?_ | refine u_dT ?_ | refine u_d ?_ | refine u_l ?_ | refine u_o ?_ | refine u_q ?_ | refine u_lr ?_ | refine u_qr ?_ | refine u_ls ?_ | refine u_qs ?_ | refine u_t ?_ | refine u_f ?_ | refine v_s ?_ | refine v_o ?_ | refine v_on ?_ | refine v_og ?_ | refine v_q ?_ | refine v_sr ?_ | refine v_k ?_ | refine m_nil ?_ | refine u_glt ?_ | refine u_glf ?_ | refine u_gqt ?_ | refine u_gqf ?_)
    refine awp_freeze 79 rfl rfl ?_
    refine awp_sub (s' := [(0, .d (u8s code)), (1, .d (u8s more)), (5, .ref 5 0), (6, .d (.int .i64 st)), (7, .d (.lst (ds.map deedD ++ [deedD (3, 0)]))), (8, .ref 8 0), (11, .d (.int .i64 a)), (12, .d (.lst (([] ++ (ds.map deedD ++ [deedD (3, 0)])) ++ [deedD (4, a)]))), (13, .d (.lst (([] ++ (ds.map deedD ++ [deedD (3, 0)])) ++ [deedD (5, a), deedD (4, a)]))), (14, .d (.lst (([] ++ (ds.map deedD ++ [deedD (3, 0)])) ++ [deedD (6, a)])))]) (by ((repeat (first | exact trivial | (refine ⟨?_, ?_⟩; (focus (first | rfl | (simp [lk, argsS, args0]; done) | (simp [lk, argsS, args0]; omega)))))))) ?_
    refine awp_permTo [(5, .box [.d (.int .i64 s), .d (rows nx), .d (ints lp)]), (8, .box [.d (.int .i64 n.st), .d (.int .i64 n.life), .d (.int .i64 n.tk), .d (.int .i64 n.d.life), .d (ints n.d.ord), .d (.int .i64 n.d.sure), .d (ints n.d.bel), .d (.int .i64 n.sv.life), .d (ints n.sv.ord), .d (.int .i64 n.sv.sure), .d (ints n.sv.bel), .d (.lst (n.wire.map pkD))])] rfl ?_
    refine awp_region ?_
    repeat (first | refine awp_seq ?_ | refine then_n ?_ | refine then_r ?_ | refine then_x ?_ | refine block_n ?_ | refine block_r ?_ | refine block_x ?_ | refine u_y ?_ | refine loop_r ?_ | refine loop_x ?_ | refine awpL_nil ?_ | refine awpQL_nil ?_ | refine awp_block ?_ | refine awp_skip ?_ | refine awp_exit ?_ | refine awp_label ?_ | refine u_dT ?_ | refine u_d ?_ | ((first | apply c_l | apply c_q | apply c_lr | apply c_qr); (iterate 2 exact rfl); (focus (first | exact l1)); (iterate 2 exact rfl)) | (apply v_c; (iterate 4 exact rfl); (focus (first | exact l1)); (iterate 2 exact rfl)) | refine u_l ?_ | refine u_o ?_ | refine u_q ?_ | refine u_lr ?_ | refine u_qr ?_ | refine u_ls ?_ | refine u_qs ?_ | refine u_t ?_ | refine u_f ?_ | refine v_s ?_ | refine v_o ?_ | refine v_on ?_ | refine v_og ?_ | refine v_q ?_ | refine v_sr ?_ | refine v_k ?_ | refine m_nil ?_ | refine u_glt ?_ | refine u_glf ?_ | refine u_gqt ?_ | refine u_gqf ?_)
    refine awp_sub (s' := [(0, .d (u8s code)), (1, .d (u8s more)), (5, .ref 5 0), (6, .d (.int .i64 st)), (7, .d (.lst (ds.map deedD ++ [deedD (3, 0)]))), (8, .ref 8 0), (11, .d (.int .i64 a)), (12, .d (.lst (([] ++ (ds.map deedD ++ [deedD (3, 0)])) ++ [deedD (4, a)]))), (13, .d (.lst (([] ++ (ds.map deedD ++ [deedD (3, 0)])) ++ [deedD (5, a), deedD (4, a)]))), (14, .d (.lst (([] ++ (ds.map deedD ++ [deedD (3, 0)])) ++ [deedD (6, a)]))), (15, .ref 15 0), (17, .d (.int .i64 0))]) (by ((repeat (first | exact trivial | (refine ⟨?_, ?_⟩; (focus (first | rfl | (simp [lk, argsS, args0]; done) | (simp [lk, argsS, args0]; omega)))))))) ?_
    refine awp_permTo [(5, .box [.d (.int .i64 s), .d (rows nx), .d (ints lp)]), (8, .box [.d (.int .i64 n.st), .d (.int .i64 n.life), .d (.int .i64 n.tk), .d (.int .i64 n.d.life), .d (ints n.d.ord), .d (.int .i64 n.d.sure), .d (ints n.d.bel), .d (.int .i64 n.sv.life), .d (ints n.sv.ord), .d (.int .i64 n.sv.sure), .d (ints n.sv.bel), .d (.lst (n.wire.map pkD))]), (15, .box [.d (.int .i64 m.st), .d (.int .i64 m.life), .d (.int .i64 m.tk), .d (.int .i64 m.d.life), .d (ints m.d.ord), .d (.int .i64 m.d.sure), .d (ints m.d.bel), .d (.int .i64 m.sv.life), .d (ints m.sv.ord), .d (.int .i64 m.sv.sure), .d (ints m.sv.bel), .d (.lst (m.wire.map pkD))])] rfl ?_
    refine awp_region ?_
    repeat (first | refine awp_seq ?_ | refine then_n ?_ | refine then_r ?_ | refine then_x ?_ | refine block_n ?_ | refine block_r ?_ | refine block_x ?_ | refine u_y ?_ | refine loop_r ?_ | refine loop_x ?_ | refine awpL_nil ?_ | refine awpQL_nil ?_ | refine awp_block ?_ | refine awp_skip ?_ | refine awp_exit ?_ | refine awp_label ?_ | refine u_dT ?_ | refine u_d ?_ | ((first | apply c_l | apply c_q | apply c_lr | apply c_qr); (iterate 2 exact rfl); (focus (first | exact l2)); (iterate 2 exact rfl)) | (apply v_c; (iterate 4 exact rfl); (focus (first | exact l2)); (iterate 2 exact rfl)) | refine u_l ?_ | refine u_o ?_ | refine u_q ?_ | refine u_lr ?_ | refine u_qr ?_ | refine u_ls ?_ | refine u_qs ?_ | refine u_t ?_ | refine u_f ?_ | refine v_s ?_ | refine v_o ?_ | refine v_on ?_ | refine v_og ?_ | refine v_q ?_ | refine v_sr ?_ | refine v_k ?_ | refine m_nil ?_ | refine u_glt ?_ | refine u_glf ?_ | refine u_gqt ?_ | refine u_gqf ?_)
    refine awp_sub (s' := [(0, .d (u8s code)), (1, .d (u8s more)), (5, .ref 5 0), (6, .d (.int .i64 st)), (7, .d (.lst (ds.map deedD ++ [deedD (3, 0)]))), (8, .ref 8 0), (11, .d (.int .i64 a)), (12, .d (.lst (([] ++ (ds.map deedD ++ [deedD (3, 0)])) ++ [deedD (4, a)]))), (13, .d (.lst (([] ++ (ds.map deedD ++ [deedD (3, 0)])) ++ [deedD (5, a), deedD (4, a)]))), (14, .d (.lst (([] ++ (ds.map deedD ++ [deedD (3, 0)])) ++ [deedD (6, a)]))), (15, .ref 15 0), (17, .d (.int .i64 0)), (18, .ref 18 0), (20, .d (.int .i64 0))]) (by ((repeat (first | exact trivial | (refine ⟨?_, ?_⟩; (focus (first | rfl | (simp [lk, argsS, args0]; done) | (simp [lk, argsS, args0]; omega)))))))) ?_
    refine awp_permTo [(5, .box [.d (.int .i64 s), .d (rows nx), .d (ints lp)]), (8, .box [.d (.int .i64 n.st), .d (.int .i64 n.life), .d (.int .i64 n.tk), .d (.int .i64 n.d.life), .d (ints n.d.ord), .d (.int .i64 n.d.sure), .d (ints n.d.bel), .d (.int .i64 n.sv.life), .d (ints n.sv.ord), .d (.int .i64 n.sv.sure), .d (ints n.sv.bel), .d (.lst (n.wire.map pkD))]), (15, .box [.d (.int .i64 m.st), .d (.int .i64 m.life), .d (.int .i64 m.tk), .d (.int .i64 m.d.life), .d (ints m.d.ord), .d (.int .i64 m.d.sure), .d (ints m.d.bel), .d (.int .i64 m.sv.life), .d (ints m.sv.ord), .d (.int .i64 m.sv.sure), .d (ints m.sv.bel), .d (.lst (m.wire.map pkD))]), (18, .box [.d (.int .i64 m.st), .d (.int .i64 m.life), .d (.int .i64 m.tk), .d (.int .i64 m.d.life), .d (ints m.d.ord), .d (.int .i64 m.d.sure), .d (ints m.d.bel), .d (.int .i64 m.sv.life), .d (ints m.sv.ord), .d (.int .i64 m.sv.sure), .d (ints m.sv.bel), .d (.lst (m.wire.map pkD))])] rfl ?_
    refine awp_region ?_
    repeat (first | refine awp_seq ?_ | refine then_n ?_ | refine then_r ?_ | refine then_x ?_ | refine block_n ?_ | refine block_r ?_ | refine block_x ?_ | refine u_y ?_ | refine loop_r ?_ | refine loop_x ?_ | refine awpL_nil ?_ | refine awpQL_nil ?_ | refine awp_block ?_ | refine awp_skip ?_ | refine awp_exit ?_ | refine awp_label ?_ | refine u_dT ?_ | refine u_d ?_ | ((first | apply c_l | apply c_q | apply c_lr | apply c_qr); (iterate 2 exact rfl); (focus (first | exact l3)); (iterate 2 exact rfl)) | (apply v_c; (iterate 4 exact rfl); (focus (first | exact l3)); (iterate 2 exact rfl)) | refine u_l ?_ | refine u_o ?_ | refine u_q ?_ | refine u_lr ?_ | refine u_qr ?_ | refine u_ls ?_ | refine u_qs ?_ | refine u_t ?_ | refine u_f ?_ | refine v_s ?_ | refine v_o ?_ | refine v_on ?_ | refine v_og ?_ | refine v_q ?_ | refine v_sr ?_ | refine v_k ?_ | refine m_nil ?_ | refine u_glt ?_ | refine u_glf ?_ | refine u_gqt ?_ | refine u_gqf ?_)
    refine awp_sub (s' := [(0, .d (u8s code)), (1, .d (u8s more)), (5, .ref 5 0), (6, .d (.int .i64 st)), (7, .d (.lst (ds.map deedD ++ [deedD (3, 0)]))), (8, .ref 8 0), (11, .d (.int .i64 a)), (12, .d (.lst (([] ++ (ds.map deedD ++ [deedD (3, 0)])) ++ [deedD (4, a)]))), (13, .d (.lst (([] ++ (ds.map deedD ++ [deedD (3, 0)])) ++ [deedD (5, a), deedD (4, a)]))), (14, .d (.lst (([] ++ (ds.map deedD ++ [deedD (3, 0)])) ++ [deedD (6, a)]))), (15, .ref 15 0), (17, .d (.int .i64 0)), (18, .ref 18 0), (20, .d (.int .i64 0)), (21, .ref 21 0), (23, .d (.int .i64 0))]) (by ((repeat (first | exact trivial | (refine ⟨?_, ?_⟩; (focus (first | rfl | (simp [lk, argsS, args0]; done) | (simp [lk, argsS, args0]; omega)))))))) ?_
    refine awp_permTo [(5, .box [.d (.int .i64 s), .d (rows nx), .d (ints lp)]), (8, .box [.d (.int .i64 n.st), .d (.int .i64 n.life), .d (.int .i64 n.tk), .d (.int .i64 n.d.life), .d (ints n.d.ord), .d (.int .i64 n.d.sure), .d (ints n.d.bel), .d (.int .i64 n.sv.life), .d (ints n.sv.ord), .d (.int .i64 n.sv.sure), .d (ints n.sv.bel), .d (.lst (n.wire.map pkD))]), (15, .box [.d (.int .i64 m.st), .d (.int .i64 m.life), .d (.int .i64 m.tk), .d (.int .i64 m.d.life), .d (ints m.d.ord), .d (.int .i64 m.d.sure), .d (ints m.d.bel), .d (.int .i64 m.sv.life), .d (ints m.sv.ord), .d (.int .i64 m.sv.sure), .d (ints m.sv.bel), .d (.lst (m.wire.map pkD))]), (18, .box [.d (.int .i64 m.st), .d (.int .i64 m.life), .d (.int .i64 m.tk), .d (.int .i64 m.d.life), .d (ints m.d.ord), .d (.int .i64 m.d.sure), .d (ints m.d.bel), .d (.int .i64 m.sv.life), .d (ints m.sv.ord), .d (.int .i64 m.sv.sure), .d (ints m.sv.bel), .d (.lst (m.wire.map pkD))]), (21, .box [.d (.int .i64 n.st), .d (.int .i64 n.life), .d (.int .i64 n.tk), .d (.int .i64 n.d.life), .d (ints n.d.ord), .d (.int .i64 n.d.sure), .d (ints n.d.bel), .d (.int .i64 n.sv.life), .d (ints n.sv.ord), .d (.int .i64 n.sv.sure), .d (ints n.sv.bel), .d (.lst ((n.wire.eraseIdx a.toNat).map pkD))])] rfl ?_
    repeat (first | refine awp_seq ?_ | refine then_n ?_ | refine then_r ?_ | refine then_x ?_ | refine block_n ?_ | refine block_r ?_ | refine block_x ?_ | refine u_y ?_ | refine loop_r ?_ | refine loop_x ?_ | refine awp_region ?_ | refine awpL_nil ?_ | refine awpQL_nil ?_ | refine awp_block ?_ | refine awp_skip ?_ | refine awp_exit ?_ | refine awp_label ?_ | refine u_dT ?_ | refine u_d ?_ | ((first | apply c_l | apply c_q | apply c_lr | apply c_qr); (iterate 2 exact rfl); (focus (first | exact e9 | exact e8)); (iterate 2 exact rfl)) | (apply v_c; (iterate 4 exact rfl); (focus (first | exact e9 | exact e8)); (iterate 2 exact rfl)) | refine u_l ?_ | refine u_o ?_ | refine u_q ?_ | refine u_lr ?_ | refine u_qr ?_ | refine u_ls ?_ | refine u_qs ?_ | refine u_t ?_ | refine u_f ?_ | refine v_s ?_ | refine v_o ?_ | refine v_on ?_ | refine v_og ?_ | refine v_q ?_ | refine v_sr ?_ | refine v_k ?_ | refine m_nil ?_ | refine u_glt ?_ | refine u_glf ?_ | refine u_gqt ?_ | refine u_gqf ?_)
    have hfin : (((n.wire.eraseIdx a.toNat).map pkD).length : Int) = ((n.wire.map pkD).length : Nat) - 1 := by omega
    (refine awp_ret ?_; (repeat (first | refine then_r ?_ | refine block_r ?_ | refine loop_r ?_)); apply ret_ok (.inr rfl); (focus exact rfl))
    rw [decide_eq_true hfin]
end Go.Proofs.Ytampglcgipefnaa
