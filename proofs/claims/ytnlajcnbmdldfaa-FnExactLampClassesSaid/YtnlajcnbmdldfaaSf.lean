/- The law of Believed. No condition. -/
import Derived.Test.YtnlajcnbmdldfaaSe
import Derived.Test.YtnlajcnbmdldfaaMb
import Derived.Test.YtnlajcnbmdldfaaFwP
namespace Go.Proofs.Ytnlajcnbmdldfaa
open Go
attribute [local irreducible] awp awpL awpQL awpQ Qt AC thenQ blockQ loopQ OpTo
set_option linter.unusedVariables false
set_option linter.unusedSimpArgs false
set_option maxHeartbeats 2000000
attribute [local irreducible] HC

theorem laws_markAutomaton {s : Int} {nx : List (List Int)} {k : Int} (hk : 0 ≤ k) (hl : k + tot nx ≤ 4611686018427387904) (hn : nx.length ≤ 9223372036854775807) :
    HC Try.prog 82 [.agg [.d (.int .i64 s), .own 10000], .d (.int .i64 k)] [(10000, .rows 43 2 1 (rws nx) none)] (.d (.int .i64 (k + tot nx)))
      [(10000, .rows 43 2 1 (rws (mkR k nx)) none)] := by
  have c1 := laws_markInt64SS (nss := nx) (k := k) hk (by omega) hn
  refine hc_intro tabIs _ Try.func82 rfl rfl Try.ntmps82 rfl rfl rfl ?_ fun w0 ok0 XM XA anc => ?_
  · exact likeIn_cons rfl mkR_like likeIn_nil
  repeat (first | refine awp_seq ?_ | refine then_n ?_ | refine then_r ?_ | refine then_x ?_ | refine block_n ?_ | refine block_r ?_ | refine block_x ?_ | refine u_y ?_ | refine loop_r ?_ | refine loop_x ?_ | refine awp_region ?_ | refine awpL_nil ?_ | refine awpQL_nil ?_ | refine awp_block ?_ | refine awp_skip ?_ | refine awp_exit ?_ | refine awp_label ?_ | refine u_dT ?_ | refine u_d ?_ | refine u_l ?_ | refine u_o ?_ | refine u_q ?_ | refine u_lr ?_ | refine u_qr ?_ | refine u_ls ?_ | refine u_qs ?_ | refine u_t ?_ | refine u_f ?_)
  refine hcl [(10000, 10000)] [(10000, 10000)] c1 ?_
  repeat (first | refine awp_seq ?_ | refine then_n ?_ | refine then_r ?_ | refine then_x ?_ | refine block_n ?_ | refine block_r ?_ | refine block_x ?_ | refine u_y ?_ | refine loop_r ?_ | refine loop_x ?_ | refine awp_region ?_ | refine awpL_nil ?_ | refine awpQL_nil ?_ | refine awp_block ?_ | refine awp_skip ?_ | refine awp_exit ?_ | refine awp_label ?_ | refine u_dT ?_ | refine u_d ?_ | refine u_l ?_ | refine u_o ?_ | refine u_q ?_ | refine u_lr ?_ | refine u_qr ?_ | refine u_ls ?_ | refine u_qs ?_ | refine u_t ?_ | refine u_f ?_)
  (refine awp_ret ?_; (repeat (first | refine then_r ?_ | refine block_r ?_ | refine loop_r ?_)); refine u_rH [(10000, 10000)] ?_ ?_)
  · rfl
  · rfl

theorem laws_markLit {s : Int} {nx : List (List Int)} {lp : List Int} {k : Int} (hk : 0 ≤ k) (hl : k + tot nx + lp.length ≤ 4611686018427387904) (hn : nx.length ≤ 9223372036854775807) :
    HC Try.prog 34 [.agg [.d (.int .i64 s), .own 10000, .own 10001], .d (.int .i64 k)] [(10000, .rows 43 2 1 (rws nx) none), (10001, .arr 2 1 (lp.map (.int .i64)))] (.d (.int .i64 (k + tot nx + lp.length)))
      [(10000, .rows 43 2 1 (rws (mkR k nx)) none), (10001, .arr 2 1 ((mk1 (k + tot nx) lp.length).map (.int .i64)))] := by
  have c1 := laws_markAutomaton (s := s) (nx := nx) (k := k) hk (by omega) hn
  have c2 := laws_markInt64S (xs := lp) (k := k + tot nx) (by omega) (by omega)
  refine hc_intro tabIs _ Try.func34 rfl rfl Try.ntmps34 rfl rfl rfl ?_ fun w0 ok0 XM XA anc => ?_
  · exact likeIn_cons rfl mkR_like (likeIn_cons rfl ⟨rfl, rfl, by simp [mk1_length]⟩ likeIn_nil)
  repeat (first | refine awp_seq ?_ | refine then_n ?_ | refine then_r ?_ | refine then_x ?_ | refine block_n ?_ | refine block_r ?_ | refine block_x ?_ | refine u_y ?_ | refine loop_r ?_ | refine loop_x ?_ | refine awp_region ?_ | refine awpL_nil ?_ | refine awpQL_nil ?_ | refine awp_block ?_ | refine awp_skip ?_ | refine awp_exit ?_ | refine awp_label ?_ | refine u_dT ?_ | refine u_d ?_ | refine u_l ?_ | refine u_o ?_ | refine u_q ?_ | refine u_lr ?_ | refine u_qr ?_ | refine u_ls ?_ | refine u_qs ?_ | refine u_t ?_ | refine u_f ?_)
  refine hcl [(10000, 10000)] [(10000, 10000)] c1 ?_
  repeat (first | refine awp_seq ?_ | refine then_n ?_ | refine then_r ?_ | refine then_x ?_ | refine block_n ?_ | refine block_r ?_ | refine block_x ?_ | refine u_y ?_ | refine loop_r ?_ | refine loop_x ?_ | refine awp_region ?_ | refine awpL_nil ?_ | refine awpQL_nil ?_ | refine awp_block ?_ | refine awp_skip ?_ | refine awp_exit ?_ | refine awp_label ?_ | refine u_dT ?_ | refine u_d ?_ | refine u_l ?_ | refine u_o ?_ | refine u_q ?_ | refine u_lr ?_ | refine u_qr ?_ | refine u_ls ?_ | refine u_qs ?_ | refine u_t ?_ | refine u_f ?_)
  refine hcl [(10001, 10000)] [(10000, 10001)] c2 ?_
  repeat (first | refine awp_seq ?_ | refine then_n ?_ | refine then_r ?_ | refine then_x ?_ | refine block_n ?_ | refine block_r ?_ | refine block_x ?_ | refine u_y ?_ | refine loop_r ?_ | refine loop_x ?_ | refine awp_region ?_ | refine awpL_nil ?_ | refine awpQL_nil ?_ | refine awp_block ?_ | refine awp_skip ?_ | refine awp_exit ?_ | refine awp_label ?_ | refine u_dT ?_ | refine u_d ?_ | refine u_l ?_ | refine u_o ?_ | refine u_q ?_ | refine u_lr ?_ | refine u_qr ?_ | refine u_ls ?_ | refine u_qs ?_ | refine u_t ?_ | refine u_f ?_)
  (refine awp_ret ?_; (repeat (first | refine then_r ?_ | refine block_r ?_ | refine loop_r ?_)); refine u_rH [(10000, 10000), (10001, 10001)] ?_ ?_)
  · rfl
  · rfl

theorem laws_toLitH {s : Int} {nx : List (List Int)} {lp : List Int} (h1 : nx.length ≤ 1048576) (h2 : ∀ ns ∈ nx, ns.length ≤ 1048576) (h3 : lp.length ≤ 1048576) :
    HC Try.prog 31 [.d (.agg [.int .i64 s, rows nx, ints lp])] [] (.agg [.d (.int .i64 s), .own 30000, .own 30001]) [(30000, .rows 43 2 1 (rws nx) none), (30001, .arr 2 1 (lp.map (.int .i64)))] := by
  have c1 := laws_toAutomatonH (s := s) h1 h2
  have c2 := laws_toInt64SH h3
  refine hc_intro tabIs _ Try.func31 rfl rfl Try.ntmps31 rfl rfl rfl ?_ fun w0 ok0 XM XA anc => ?_
  · exact likeIn_nil
  repeat (first | refine awp_seq ?_ | refine then_n ?_ | refine then_r ?_ | refine then_x ?_ | refine block_n ?_ | refine block_r ?_ | refine block_x ?_ | refine u_y ?_ | refine loop_r ?_ | refine loop_x ?_ | refine awp_region ?_ | refine awpL_nil ?_ | refine awpQL_nil ?_ | refine awp_block ?_ | refine awp_skip ?_ | refine awp_exit ?_ | refine awp_label ?_ | refine u_dT ?_ | refine u_d ?_ | refine u_w (t := 2) ?_ | refine u_w (t := 3) ?_ | refine u_l ?_ | refine u_o ?_ | refine u_q ?_ | refine u_lr ?_ | refine u_qr ?_ | refine u_ls ?_ | refine u_qs ?_ | refine u_t ?_ | refine u_f ?_)
  refine hcl [] [(30000, 500)] c1 ?_
  repeat (first | refine awp_seq ?_ | refine then_n ?_ | refine then_r ?_ | refine then_x ?_ | refine block_n ?_ | refine block_r ?_ | refine block_x ?_ | refine u_y ?_ | refine loop_r ?_ | refine loop_x ?_ | refine awp_region ?_ | refine awpL_nil ?_ | refine awpQL_nil ?_ | refine awp_block ?_ | refine awp_skip ?_ | refine awp_exit ?_ | refine awp_label ?_ | refine u_dT ?_ | refine u_d ?_ | refine u_l ?_ | refine u_o ?_ | refine u_q ?_ | refine u_lr ?_ | refine u_qr ?_ | refine u_ls ?_ | refine u_qs ?_ | refine u_t ?_ | refine u_f ?_)
  refine hcl [] [(30000, 501)] c2 ?_
  repeat (first | refine awp_seq ?_ | refine then_n ?_ | refine then_r ?_ | refine then_x ?_ | refine block_n ?_ | refine block_r ?_ | refine block_x ?_ | refine u_y ?_ | refine loop_r ?_ | refine loop_x ?_ | refine awp_region ?_ | refine awpL_nil ?_ | refine awpQL_nil ?_ | refine awp_block ?_ | refine awp_skip ?_ | refine awp_exit ?_ | refine awp_label ?_ | refine u_dT ?_ | refine u_d ?_ | refine u_l ?_ | refine u_o ?_ | refine u_q ?_ | refine u_lr ?_ | refine u_qr ?_ | refine u_ls ?_ | refine u_qs ?_ | refine u_t ?_ | refine u_f ?_)
  (refine awp_ret ?_; (repeat (first | refine then_r ?_ | refine block_r ?_ | refine loop_r ?_)); refine u_rH [(500, 30000), (501, 30001)] ?_ ?_)
  · rfl
  · rfl

theorem tot_bound {nss : List (List Int)} {m : Nat} (h : ∀ ns ∈ nss, ns.length ≤ m) : tot nss ≤ nss.length * m := by
  induction nss with
  | nil => simp [tot]
  | cons x l ih =>
    have h1 := h x (List.mem_cons_self ..)
    have h2 := ih fun ns hn => h ns (List.mem_cons_of_mem _ hn)
    simp only [tot, List.length_cons, Nat.add_mul]
    omega

theorem incr_len {l : List Int} (h : l.Pairwise (· < ·)) : ∀ lo : Int, (∀ q ∈ l, lo ≤ q ∧ q ≤ 9) → (l.length : Int) ≤ max 0 (10 - lo) := by
  induction l with
  | nil => intro lo _; simp; omega
  | cons x l ih =>
    intro lo hl
    have hp' := List.pairwise_cons.1 h
    have hx := hl x (List.mem_cons_self ..)
    have := ih hp'.2 (x + 1) (fun q hq => ⟨by have := hp'.1 q hq; omega, (hl q (List.mem_cons_of_mem _ hq)).2⟩)
    simp only [List.length_cons]
    omega

theorem belD_len (s x y : Int) (nx : List (List Int)) (lp l : List Int) : (belD s nx lp l x y).1.length ≤ 10 := by
  unfold belD
  split
  · rename_i hv
    split
    · rename_i hr
      have v := lv_of hv
      have hs := v.s1
      simp only [Bool.and_eq_true] at hr
      obtain ⟨i1, i2⟩ := imgL_spec nx l [x]
      have hx' : 0 ≤ x ∧ x < nx.length := by have := hr.2.1; simp only [inB, Bool.and_eq_true, decide_eq_true_eq] at this; omega
      have hmem := (ris_of hr.1).1
      have := incr_len i1 0 fun q hq => by
        obtain ⟨p, hp, e⟩ := (i2 q).1 hq
        subst e
        have := tbl_at v.nx hx' (q := p) (by have := hmem p hp; omega)
        show 0 ≤ at2 nx x p ∧ at2 nx x p ≤ 9
        omega
      have h2 := List.length_filter_le (fun q => decide (lamp lp q = y)) (imgL nx l [x])
      show (List.filter _ _).length ≤ 10
      omega
    · simp
  · simp

theorem law_ExactBelieved {s x y : Int} {nx : List (List Int)} {lp l : List Int} (g1 : I64 s) (h1 : RowsOk nx) (h2 : IntsOk lp) (h3 : IntsOk l) (g5 : I64 x) (g6 : I64 y) :
    AC Try.prog 7 [.agg [.int .i64 s, rows nx, ints lp], ints l, .int .i64 x, .int .i64 y] (.bool true) := by
  have hl := h2.2
  have hl3 := h3.2
  have hle : (List.map (D.int IntKind.i64) l).length = l.length := by simp
  have hb : (0 : Int) ≤ 1048576 ∧ (1048576 : Int) ≤ 1048576 := by omega
  by_cases hlen : 1048576 < l.length
  · refine ac_intro tabIs _ Try.func7 rfl rfl Try.ntmps7 rfl rfl fun w0 ok0 => ?_
    repeat (first | refine awp_seq ?_ | refine then_n ?_ | refine then_r ?_ | refine then_x ?_ | refine block_n ?_ | refine block_r ?_ | refine block_x ?_ | refine u_y ?_ | refine loop_r ?_ | refine loop_x ?_ | refine awp_region ?_ | refine awpL_nil ?_ | refine awpQL_nil ?_ | refine awp_block ?_ | refine awp_skip ?_ | refine awp_exit ?_ | refine awp_label ?_ | refine u_dT ?_ | refine u_d ?_ | refine u_l ?_ | refine u_o ?_ | refine u_q ?_ | refine u_lr ?_ | refine u_qr ?_ | refine u_ls ?_ | refine u_qs ?_ | refine u_t ?_ | refine u_f ?_)
    (refine awp_ret ?_; (repeat (first | refine then_r ?_ | refine block_r ?_ | refine loop_r ?_)); apply ret_ok (.inr rfl); (focus exact rfl))
    rfl
  · have e1 := laws_szLit (s := s) (nx := nx) (lp := lp) (left := 1048576) h1 hl hb
    by_cases hc : szLitF nx lp 1048576 < 0
    · refine ac_intro tabIs _ Try.func7 rfl rfl Try.ntmps7 rfl rfl fun w0 ok0 => ?_
      repeat (first | refine awp_seq ?_ | refine then_n ?_ | refine then_r ?_ | refine then_x ?_ | refine block_n ?_ | refine block_r ?_ | refine block_x ?_ | refine u_y ?_ | refine loop_r ?_ | refine loop_x ?_ | refine awp_region ?_ | refine awpL_nil ?_ | refine awpQL_nil ?_ | refine awp_block ?_ | refine awp_skip ?_ | refine awp_exit ?_ | refine awp_label ?_ | refine u_dT ?_ | refine u_d ?_ | ((first | apply c_l | apply c_q | apply c_lr | apply c_qr); (iterate 2 exact rfl); (focus (first | exact e1)); (iterate 2 exact rfl)) | refine u_l ?_ | refine u_o ?_ | refine u_q ?_ | refine u_lr ?_ | refine u_qr ?_ | refine u_ls ?_ | refine u_qs ?_ | refine u_t ?_ | refine u_f ?_)
      (refine awp_ret ?_; (repeat (first | refine then_r ?_ | refine block_r ?_ | refine loop_r ?_)); apply ret_ok (.inr rfl); (focus exact rfl))
      rfl
    · obtain ⟨a1, a2, a3⟩ := szLitF_ok hc
      have t1 := laws_toLit (s := s) a1 a2 a3
      have t2 := laws_toInt64S (ns := l) (by omega)
      have t3 := laws_toLitH (s := s) a1 a2 a3
      have t4 := laws_toInt64SH (ns := l) (by omega)
      have f1 := spec_Believed (s := s) (x := x) (y := y) h1 hl hl3
      have f2 := impl_BelievedH (s := s) (x := x) (y := y) h1 hl hl3
      have f3 := impl_BelievedH (s := s) (x := x) (y := y) h1 hl hl3
      have hbl := belD_len s x y nx lp l
      rw [← rws_dat] at f3
      have htot := tot_bound a2
      have htb : tot nx ≤ 1048576 * 1048576 := Nat.le_trans htot (Nat.mul_le_mul_right _ a1)
      have m1 := laws_markLit (s := s) (nx := nx) (lp := lp) (k := 1) (by omega) (by omega) (by omega)
      have m2 := laws_markInt64S (xs := l) (k := 1 + tot nx + lp.length) (by omega) (by omega)
      generalize belD s nx lp l x y = o at *
      have m3 := laws_markInt64S (xs := o.1) (k := 1) (by omega) (by omega)
      have d3 := laws_heldInt64S (n := o.1.length) (k := 1) (by omega) (by omega)
      have q1 : AC Try.prog 38 [ints o.1, ints o.1] (.bool true) := by have := laws_eqInt64S (a := o.1) (b := o.1) (by omega) (by omega); simpa using this
      have q2 : AC Try.prog 38 [ints l, ints l] (.bool true) := by have := laws_eqInt64S (a := l) (b := l) (by omega) (by omega); simpa using this
      have q3 : AC Try.prog 33 [.agg [.int .i64 s, .lst ((rws nx).map D.lst), ints lp], .agg [.int .i64 s, rows nx, ints lp]] (.bool true) := by
        have := laws_eqLit (s := s) (s' := s) (nx := nx) (nx' := nx) (lp := lp) (lp' := lp) h1 h1 hl hl
        rw [rws_dat]
        simpa using this
      generalize szLitF nx lp 1048576 = left at *
      refine ac_intro tabIs _ Try.func7 rfl rfl Try.ntmps7 rfl rfl fun w0 ok0 => ?_
      repeat (first | refine awp_seq ?_ | refine then_n ?_ | refine then_r ?_ | refine then_x ?_ | refine block_n ?_ | refine block_r ?_ | refine block_x ?_ | refine u_y ?_ | refine loop_r ?_ | refine loop_x ?_ | refine awp_region ?_ | refine awpL_nil ?_ | refine awpQL_nil ?_ | refine awp_block ?_ | refine awp_skip ?_ | refine awp_exit ?_ | refine awp_label ?_ | refine u_dT ?_ | refine u_d ?_ | ((first | apply c_l | apply c_q | apply c_lr | apply c_qr); (iterate 2 exact rfl); (focus (first | exact e1)); (iterate 2 exact rfl)) | refine u_l ?_ | refine u_o ?_ | refine u_q ?_ | refine u_lr ?_ | refine u_qr ?_ | refine u_ls ?_ | refine u_qs ?_ | refine u_t ?_ | refine u_f ?_)
      (apply c_l; (iterate 2 exact rfl); (focus exact t1); (iterate 2 exact rfl))
      repeat (first | refine awp_seq ?_ | refine then_n ?_ | refine then_r ?_ | refine then_x ?_ | refine block_n ?_ | refine block_r ?_ | refine block_x ?_ | refine u_y ?_ | refine loop_r ?_ | refine loop_x ?_ | refine awp_region ?_ | refine awpL_nil ?_ | refine awpQL_nil ?_ | refine awp_block ?_ | refine awp_skip ?_ | refine awp_exit ?_ | refine awp_label ?_ | refine u_dT ?_ | refine u_d ?_ | refine u_l ?_ | refine u_o ?_ | refine u_q ?_ | refine u_lr ?_ | refine u_qr ?_ | refine u_ls ?_ | refine u_qs ?_ | refine u_t ?_ | refine u_f ?_)
      (apply c_l; (iterate 2 exact rfl); (focus exact t2); (iterate 2 exact rfl))
      repeat (first | refine awp_seq ?_ | refine then_n ?_ | refine then_r ?_ | refine then_x ?_ | refine block_n ?_ | refine block_r ?_ | refine block_x ?_ | refine u_y ?_ | refine loop_r ?_ | refine loop_x ?_ | refine awp_region ?_ | refine awpL_nil ?_ | refine awpQL_nil ?_ | refine awp_block ?_ | refine awp_skip ?_ | refine awp_exit ?_ | refine awp_label ?_ | refine u_dT ?_ | refine u_d ?_ | refine u_w (t := 12) ?_ | ((first | apply c_l | apply c_q | apply c_lr | apply c_qr); (iterate 2 exact rfl); (focus (first | exact f1)); (iterate 2 exact rfl)) | refine u_l ?_ | refine u_o ?_ | refine u_q ?_ | refine u_lr ?_ | refine u_qr ?_ | refine u_ls ?_ | refine u_qs ?_ | refine u_t ?_ | refine u_f ?_)
      refine hcl [] [(30000, 500), (30001, 501)] t3 ?_
      repeat (first | refine awp_seq ?_ | refine then_n ?_ | refine then_r ?_ | refine then_x ?_ | refine block_n ?_ | refine block_r ?_ | refine block_x ?_ | refine u_y ?_ | refine loop_r ?_ | refine loop_x ?_ | refine awp_region ?_ | refine awpL_nil ?_ | refine awpQL_nil ?_ | refine awp_block ?_ | refine awp_skip ?_ | refine awp_exit ?_ | refine awp_label ?_ | refine u_dT ?_ | refine u_d ?_ | refine u_l ?_ | refine u_o ?_ | refine u_q ?_ | refine u_lr ?_ | refine u_qr ?_ | refine u_ls ?_ | refine u_qs ?_ | refine u_t ?_ | refine u_f ?_)
      refine hcl [] [(30000, 502)] t4 ?_
      repeat (first | refine awp_seq ?_ | refine then_n ?_ | refine then_r ?_ | refine then_x ?_ | refine block_n ?_ | refine block_r ?_ | refine block_x ?_ | refine u_y ?_ | refine loop_r ?_ | refine loop_x ?_ | refine awp_region ?_ | refine awpL_nil ?_ | refine awpQL_nil ?_ | refine awp_block ?_ | refine awp_skip ?_ | refine awp_exit ?_ | refine awp_label ?_ | refine u_dT ?_ | refine u_d ?_ | refine u_l ?_ | refine u_o ?_ | refine u_q ?_ | refine u_lr ?_ | refine u_qr ?_ | refine u_ls ?_ | refine u_qs ?_ | refine u_t ?_ | refine u_f ?_)
      refine hlend (xs := [.agg [.int .i64 s, .lst ((rws nx).map D.lst), ints lp], ints l, .int .i64 x, .int .i64 y]) (cap := []) [(30000, 503)] f3 ?_ ?_ ?_
      · intro p hp
        simp at hp
        subst hp
        intro x hx
        simp at hx
        obtain ⟨a, _, rfl⟩ := hx
        rfl
      · exact ⟨trivial, rfl, trivial⟩
      repeat (first | refine awp_seq ?_ | refine then_n ?_ | refine then_r ?_ | refine then_x ?_ | refine block_n ?_ | refine block_r ?_ | refine block_x ?_ | refine u_y ?_ | refine loop_r ?_ | refine loop_x ?_ | refine awp_region ?_ | refine awpL_nil ?_ | refine awpQL_nil ?_ | refine awp_block ?_ | refine awp_skip ?_ | refine awp_exit ?_ | refine awp_label ?_ | refine u_dT ?_ | refine u_d ?_ | ((first | apply c_l | apply c_q | apply c_lr | apply c_qr); (iterate 2 exact rfl); (focus (first | exact q1 | exact q2 | exact q3 | exact t1 | exact t2)); (iterate 2 exact rfl)) | refine u_l ?_ | refine u_o ?_ | refine u_q ?_ | refine u_lr ?_ | refine u_qr ?_ | refine u_ls ?_ | refine u_qs ?_ | refine u_t ?_ | refine u_f ?_)
      refine hcl [(500, 10000), (501, 10001)] [(10000, 500), (10001, 501)] m1 ?_
      repeat (first | refine awp_seq ?_ | refine then_n ?_ | refine then_r ?_ | refine then_x ?_ | refine block_n ?_ | refine block_r ?_ | refine block_x ?_ | refine u_y ?_ | refine loop_r ?_ | refine loop_x ?_ | refine awp_region ?_ | refine awpL_nil ?_ | refine awpQL_nil ?_ | refine awp_block ?_ | refine awp_skip ?_ | refine awp_exit ?_ | refine awp_label ?_ | refine u_dT ?_ | refine u_d ?_ | refine u_l ?_ | refine u_o ?_ | refine u_q ?_ | refine u_lr ?_ | refine u_qr ?_ | refine u_ls ?_ | refine u_qs ?_ | refine u_t ?_ | refine u_f ?_)
      refine hcl [(502, 10000)] [(10000, 502)] m2 ?_
      repeat (first | refine awp_seq ?_ | refine then_n ?_ | refine then_r ?_ | refine then_x ?_ | refine block_n ?_ | refine block_r ?_ | refine block_x ?_ | refine u_y ?_ | refine loop_r ?_ | refine loop_x ?_ | refine awp_region ?_ | refine awpL_nil ?_ | refine awpQL_nil ?_ | refine awp_block ?_ | refine awp_skip ?_ | refine awp_exit ?_ | refine awp_label ?_ | refine u_dT ?_ | refine u_d ?_ | ((first | apply c_l | apply c_q | apply c_lr | apply c_qr); (iterate 2 exact rfl); (focus (first | exact q1)); (iterate 2 exact rfl)) | refine u_l ?_ | refine u_o ?_ | refine u_q ?_ | refine u_lr ?_ | refine u_qr ?_ | refine u_ls ?_ | refine u_qs ?_ | refine u_t ?_ | refine u_f ?_)
      refine hcl [(503, 10000)] [(10000, 503)] m3 ?_
      repeat (first | refine awp_seq ?_ | refine then_n ?_ | refine then_r ?_ | refine then_x ?_ | refine block_n ?_ | refine block_r ?_ | refine block_x ?_ | refine u_y ?_ | refine loop_r ?_ | refine loop_x ?_ | refine awp_region ?_ | refine awpL_nil ?_ | refine awpQL_nil ?_ | refine awp_block ?_ | refine awp_skip ?_ | refine awp_exit ?_ | refine awp_label ?_ | refine u_dT ?_ | refine u_d ?_ | ((first | apply c_l | apply c_q | apply c_lr | apply c_qr); (iterate 2 exact rfl); (focus (first | exact d3)); (iterate 2 exact rfl)) | refine u_l ?_ | refine u_o ?_ | refine u_q ?_ | refine u_lr ?_ | refine u_qr ?_ | refine u_ls ?_ | refine u_qs ?_ | refine u_t ?_ | refine u_f ?_)
      (apply c_l; (iterate 2 exact rfl); (focus exact t1); (iterate 2 exact rfl))
      repeat (first | refine awp_seq ?_ | refine then_n ?_ | refine then_r ?_ | refine then_x ?_ | refine block_n ?_ | refine block_r ?_ | refine block_x ?_ | refine u_y ?_ | refine loop_r ?_ | refine loop_x ?_ | refine awp_region ?_ | refine awpL_nil ?_ | refine awpQL_nil ?_ | refine awp_block ?_ | refine awp_skip ?_ | refine awp_exit ?_ | refine awp_label ?_ | refine u_dT ?_ | refine u_d ?_ | refine u_l ?_ | refine u_o ?_ | refine u_q ?_ | refine u_lr ?_ | refine u_qr ?_ | refine u_ls ?_ | refine u_qs ?_ | refine u_t ?_ | refine u_f ?_)
      (apply c_l; (iterate 2 exact rfl); (focus exact t2); (iterate 2 exact rfl))
      repeat (first | refine awp_seq ?_ | refine then_n ?_ | refine then_r ?_ | refine then_x ?_ | refine block_n ?_ | refine block_r ?_ | refine block_x ?_ | refine u_y ?_ | refine loop_r ?_ | refine loop_x ?_ | refine awp_region ?_ | refine awpL_nil ?_ | refine awpQL_nil ?_ | refine awp_block ?_ | refine awp_skip ?_ | refine awp_exit ?_ | refine awp_label ?_ | refine u_dT ?_ | refine u_d ?_ | refine u_l ?_ | refine u_o ?_ | refine u_q ?_ | refine u_lr ?_ | refine u_qr ?_ | refine u_ls ?_ | refine u_qs ?_ | refine u_t ?_ | refine u_f ?_)
      refine hcl [] [(30000, 504)] f2 ?_
      repeat (first | refine awp_seq ?_ | refine then_n ?_ | refine then_r ?_ | refine then_x ?_ | refine block_n ?_ | refine block_r ?_ | refine block_x ?_ | refine u_y ?_ | refine loop_r ?_ | refine loop_x ?_ | refine awp_region ?_ | refine awpL_nil ?_ | refine awpQL_nil ?_ | refine awp_block ?_ | refine awp_skip ?_ | refine awp_exit ?_ | refine awp_label ?_ | refine u_dT ?_ | refine u_d ?_ | ((first | apply c_l | apply c_q | apply c_lr | apply c_qr); (iterate 2 exact rfl); (focus (first | exact q1 | exact d3)); (iterate 2 exact rfl)) | refine u_l ?_ | refine u_o ?_ | refine u_q ?_ | refine u_lr ?_ | refine u_qr ?_ | refine u_ls ?_ | refine u_qs ?_ | refine u_t ?_ | refine u_f ?_)
      (refine awp_ret ?_; (repeat (first | refine then_r ?_ | refine block_r ?_ | refine loop_r ?_)); apply ret_ok (.inr rfl); (focus exact rfl))
      rfl

end Go.Proofs.Ytnlajcnbmdldfaa
