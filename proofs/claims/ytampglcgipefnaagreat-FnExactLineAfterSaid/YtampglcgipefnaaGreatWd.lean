/- Contracts of what tells valid automata and lit automata in the reference. No condition. -/
import Derived.Test.YtampglcgipefnaaGreatWc
import Derived.Test.YtampglcgipefnaaGreatFwT
namespace Go.Proofs.YtampglcgipefnaaGreat
open Go
attribute [local irreducible] awp awpL awpQL awpQ awpM pWalk Qt AC thenQ blockQ loopQ OpTo
set_option linter.unusedVariables false
set_option linter.unusedSimpArgs false
set_option maxHeartbeats 2000000

theorem all_drop {α : Type} (p : α → Bool) {xs : List α} {k : Nat} (h : k < xs.length) : (xs.drop k).all p = (p xs[k] && (xs.drop (k + 1)).all p) := by
  rw [List.drop_eq_getElem_cons h, List.all_cons]

theorem spec_l01Map {ns : List Int} {n : Int} (hn : -1048576 ≤ n ∧ n ≤ 1048576) (hl : ns.length ≤ 9223372036854775807) : AC Tryz.prog 136 [ints ns, .int .i64 n] (.bool (rowOk n n ns)) := by
  refine ac_intro tabIs _ Tryz.func136 rfl rfl Tryz.ntmps136 rfl rfl fun w0 ok0 => ?_
  have hle : (List.map (D.int IntKind.i64) ns).length = ns.length := by simp
  repeat (first | refine awp_seq ?_ | refine then_n ?_ | refine then_r ?_ | refine then_x ?_ | refine block_n ?_ | refine block_r ?_ | refine block_x ?_ | refine u_y ?_ | refine loop_r ?_ | refine loop_x ?_ | refine awp_region ?_ | refine awpL_nil ?_ | refine awpQL_nil ?_ | refine awp_block ?_ | refine awp_skip ?_ | refine awp_exit ?_ | refine awp_label ?_ | refine u_dT ?_ | refine u_d ?_ | refine u_l ?_ | refine u_o ?_ | refine u_q ?_ | refine u_lr ?_ | refine u_qr ?_ | refine u_ls ?_ | refine u_qs ?_ | refine u_t ?_ | refine u_f ?_ | refine v_s ?_ | refine v_o ?_ | refine v_on ?_ | refine v_og ?_ | refine v_q ?_ | refine v_sr ?_ | refine v_k ?_ | refine m_nil ?_)
  refine awp_loop (fun k : Nat => k ≤ ns.length ∧ allIn (ns.drop k) 0 (n - 1) = allIn ns 0 (n - 1))
    (fun k => [(0, .d (ints ns)), (1, .d (.int .i64 n)), (5, .d (.int .i64 k))]) (fun _ => []) (fun k => ns.length - k) 0 (by simp) ?_ rfl ?_
  · ((repeat (first | exact trivial | (refine ⟨?_, ?_⟩; (focus (first | rfl | (simp [lk, argsS, args0]; done) | (simp [lk, argsS, args0]; omega)))))))
  · rintro k ⟨hk, hf⟩
    by_cases hlt : k < ns.length
    · have hx := el_int hlt
      unfold allIn at hf
      rw [all_drop _ hlt] at hf
      cases hb : inB ns[k] 0 (n - 1)
      · have hw : AC Tryz.prog 79 [.int .i64 ns[k], .int .i64 0, .int .i64 (n - 1)] (.bool false) := hb ▸ spec_l00In
        repeat (first | refine awp_seq ?_ | refine then_n ?_ | refine then_r ?_ | refine then_x ?_ | refine block_n ?_ | refine block_r ?_ | refine block_x ?_ | refine u_y ?_ | refine loop_r ?_ | refine loop_x ?_ | refine awp_region ?_ | refine awpL_nil ?_ | refine awpQL_nil ?_ | refine awp_block ?_ | refine awp_skip ?_ | refine awp_exit ?_ | refine awp_label ?_ | refine u_dT ?_ | refine u_d ?_ | ((first | apply c_l | apply c_q | apply c_lr | apply c_qr); (iterate 2 exact rfl); (focus (first | exact hw)); (iterate 2 exact rfl)) | (apply v_c; (iterate 4 exact rfl); (focus (first | exact hw)); (iterate 2 exact rfl)) | refine u_l ?_ | refine u_o ?_ | refine u_q ?_ | refine u_lr ?_ | refine u_qr ?_ | refine u_ls ?_ | refine u_qs ?_ | refine u_t ?_ | refine u_f ?_ | refine v_s ?_ | refine v_o ?_ | refine v_on ?_ | refine v_og ?_ | refine v_q ?_ | refine v_sr ?_ | refine v_k ?_ | refine m_nil ?_)
        (refine awp_ret ?_; (repeat (first | refine then_r ?_ | refine block_r ?_ | refine loop_r ?_)); apply ret_ok (.inr rfl); (focus exact rfl))
        rw [hb] at hf
        simp only [Bool.false_and] at hf
        simp [rowOk, allIn, ← hf]
      · have hw : AC Tryz.prog 79 [.int .i64 ns[k], .int .i64 0, .int .i64 (n - 1)] (.bool true) := hb ▸ spec_l00In
        repeat (first | refine awp_seq ?_ | refine then_n ?_ | refine then_r ?_ | refine then_x ?_ | refine block_n ?_ | refine block_r ?_ | refine block_x ?_ | refine u_y ?_ | refine loop_r ?_ | refine loop_x ?_ | refine awp_region ?_ | refine awpL_nil ?_ | refine awpQL_nil ?_ | refine awp_block ?_ | refine awp_skip ?_ | refine awp_exit ?_ | refine awp_label ?_ | refine u_dT ?_ | refine u_d ?_ | ((first | apply c_l | apply c_q | apply c_lr | apply c_qr); (iterate 2 exact rfl); (focus (first | exact hw)); (iterate 2 exact rfl)) | (apply v_c; (iterate 4 exact rfl); (focus (first | exact hw)); (iterate 2 exact rfl)) | refine u_l ?_ | refine u_o ?_ | refine u_q ?_ | refine u_lr ?_ | refine u_qr ?_ | refine u_ls ?_ | refine u_qs ?_ | refine u_t ?_ | refine u_f ?_ | refine v_s ?_ | refine v_o ?_ | refine v_on ?_ | refine v_og ?_ | refine v_q ?_ | refine v_sr ?_ | refine v_k ?_ | refine m_nil ?_)
        rw [hb] at hf
        refine loop_n (k + 1) ⟨by omega, by simpa [allIn] using hf⟩ ?_ rfl (by omega)
        ((repeat (first | exact trivial | (refine ⟨?_, ?_⟩; (focus (first | rfl | (simp [lk, argsS, args0]; done) | (simp [lk, argsS, args0]; omega)))))))
    · have : k = ns.length := by omega
      subst this
      repeat (first | refine awp_seq ?_ | refine then_n ?_ | refine then_r ?_ | refine then_x ?_ | refine block_n ?_ | refine block_r ?_ | refine block_x ?_ | refine u_y ?_ | refine loop_r ?_ | refine loop_x ?_ | refine awp_region ?_ | refine awpL_nil ?_ | refine awpQL_nil ?_ | refine awp_block ?_ | refine awp_skip ?_ | refine awp_exit ?_ | refine awp_label ?_ | refine u_dT ?_ | refine u_d ?_ | refine u_l ?_ | refine u_o ?_ | refine u_q ?_ | refine u_lr ?_ | refine u_qr ?_ | refine u_ls ?_ | refine u_qs ?_ | refine u_t ?_ | refine u_f ?_ | refine v_s ?_ | refine v_o ?_ | refine v_on ?_ | refine v_og ?_ | refine v_q ?_ | refine v_sr ?_ | refine v_k ?_ | refine m_nil ?_)
      (refine awp_ret ?_; (repeat (first | refine then_r ?_ | refine block_r ?_ | refine loop_r ?_)); apply ret_ok (.inr rfl); (focus exact rfl))
      simp [allIn] at hf
      simp [rowOk, allIn, ← hf]
      intro _; exact hf

theorem spec_l01Ok {s : Int} {nx : List (List Int)} (h : RowsOk nx) : AC Tryz.prog 113 [.ptr (.agg [.int .i64 s, rows nx])] (.bool (autoOk s nx)) := by
  by_cases hs : 1 ≤ s ∧ s ≤ 10
  · have hb : inB s 1 10 = true := by simpa [inB] using hs
    have hw : AC Tryz.prog 79 [.int .i64 s, .int .i64 1, .int .i64 10] (.bool true) := hb ▸ spec_l00In
    have hle : (List.map ints nx).length = nx.length := by simp
    have h2 := h.2
    cases hc : inB nx.length 1 3
    · have hw2 : AC Tryz.prog 79 [.int .i64 nx.length, .int .i64 1, .int .i64 3] (.bool false) := hc ▸ spec_l00In
      refine ac_intro tabIs _ Tryz.func113 rfl rfl Tryz.ntmps113 rfl rfl fun w0 ok0 => ?_
      repeat (first | refine awp_seq ?_ | refine then_n ?_ | refine then_r ?_ | refine then_x ?_ | refine block_n ?_ | refine block_r ?_ | refine block_x ?_ | refine u_y ?_ | refine loop_r ?_ | refine loop_x ?_ | refine awp_region ?_ | refine awpL_nil ?_ | refine awpQL_nil ?_ | refine awp_block ?_ | refine awp_skip ?_ | refine awp_exit ?_ | refine awp_label ?_ | refine u_dT ?_ | refine u_d ?_ | ((first | apply c_l | apply c_q | apply c_lr | apply c_qr); (iterate 2 exact rfl); (focus (first | exact hw | exact hw2 | exact by rw [hle]; exact hw2)); (iterate 2 exact rfl)) | (apply v_c; (iterate 4 exact rfl); (focus (first | exact hw | exact hw2 | exact by rw [hle]; exact hw2)); (iterate 2 exact rfl)) | refine u_l ?_ | refine u_o ?_ | refine u_q ?_ | refine u_lr ?_ | refine u_qr ?_ | refine u_ls ?_ | refine u_qs ?_ | refine u_t ?_ | refine u_f ?_ | refine v_s ?_ | refine v_o ?_ | refine v_on ?_ | refine v_og ?_ | refine v_q ?_ | refine v_sr ?_ | refine v_k ?_ | refine m_nil ?_)
      (refine awp_ret ?_; (repeat (first | refine then_r ?_ | refine block_r ?_ | refine loop_r ?_)); apply ret_ok (.inr rfl); (focus exact rfl))
      simp [autoOk, hc]
    · have hw2 : AC Tryz.prog 79 [.int .i64 nx.length, .int .i64 1, .int .i64 3] (.bool true) := hc ▸ spec_l00In
      refine ac_intro tabIs _ Tryz.func113 rfl rfl Tryz.ntmps113 rfl rfl fun w0 ok0 => ?_
      repeat (first | refine awp_seq ?_ | refine then_n ?_ | refine then_r ?_ | refine then_x ?_ | refine block_n ?_ | refine block_r ?_ | refine block_x ?_ | refine u_y ?_ | refine loop_r ?_ | refine loop_x ?_ | refine awp_region ?_ | refine awpL_nil ?_ | refine awpQL_nil ?_ | refine awp_block ?_ | refine awp_skip ?_ | refine awp_exit ?_ | refine awp_label ?_ | refine u_dT ?_ | refine u_d ?_ | ((first | apply c_l | apply c_q | apply c_lr | apply c_qr); (iterate 2 exact rfl); (focus (first | exact hw | exact hw2 | exact by rw [hle]; exact hw2)); (iterate 2 exact rfl)) | (apply v_c; (iterate 4 exact rfl); (focus (first | exact hw | exact hw2 | exact by rw [hle]; exact hw2)); (iterate 2 exact rfl)) | refine u_l ?_ | refine u_o ?_ | refine u_q ?_ | refine u_lr ?_ | refine u_qr ?_ | refine u_ls ?_ | refine u_qs ?_ | refine u_t ?_ | refine u_f ?_ | refine v_s ?_ | refine v_o ?_ | refine v_on ?_ | refine v_og ?_ | refine v_q ?_ | refine v_sr ?_ | refine v_k ?_ | refine m_nil ?_)
      refine awp_loop (fun k : Nat => k ≤ nx.length ∧ (nx.drop k).all (rowOk s s) = nx.all (rowOk s s))
        (fun k => [(0, .d (.ptr (.agg [.int .i64 s, rows nx]))), (3, .d (.int .i64 k))]) (fun _ => []) (fun k => nx.length - k) 0 (by simp) ?_ rfl ?_
      · ((repeat (first | exact trivial | (refine ⟨?_, ?_⟩; (focus (first | rfl | (simp [lk, argsS, args0]; done) | (simp [lk, argsS, args0]; omega)))))))
      · rintro k ⟨hk, hf⟩
        by_cases hlt : k < nx.length
        · have hx := el_row hlt
          have hl : nx[k].length ≤ 9223372036854775807 := (h.1 _ (List.getElem_mem hlt)).2
          rw [all_drop _ hlt] at hf
          cases hr : rowOk s s nx[k]
          · have hw3 : AC Tryz.prog 136 [ints nx[k], .int .i64 s] (.bool false) := hr ▸ spec_l01Map (by omega) hl
            repeat (first | refine awp_seq ?_ | refine then_n ?_ | refine then_r ?_ | refine then_x ?_ | refine block_n ?_ | refine block_r ?_ | refine block_x ?_ | refine u_y ?_ | refine loop_r ?_ | refine loop_x ?_ | refine awp_region ?_ | refine awpL_nil ?_ | refine awpQL_nil ?_ | refine awp_block ?_ | refine awp_skip ?_ | refine awp_exit ?_ | refine awp_label ?_ | refine u_dT ?_ | refine u_d ?_ | ((first | apply c_l | apply c_q | apply c_lr | apply c_qr); (iterate 2 exact rfl); (focus (first | exact hw3)); (iterate 2 exact rfl)) | (apply v_c; (iterate 4 exact rfl); (focus (first | exact hw3)); (iterate 2 exact rfl)) | refine u_l ?_ | refine u_o ?_ | refine u_q ?_ | refine u_lr ?_ | refine u_qr ?_ | refine u_ls ?_ | refine u_qs ?_ | refine u_t ?_ | refine u_f ?_ | refine v_s ?_ | refine v_o ?_ | refine v_on ?_ | refine v_og ?_ | refine v_q ?_ | refine v_sr ?_ | refine v_k ?_ | refine m_nil ?_)
            (refine awp_ret ?_; (repeat (first | refine then_r ?_ | refine block_r ?_ | refine loop_r ?_)); apply ret_ok (.inr rfl); (focus exact rfl))
            rw [hr] at hf
            simp only [Bool.false_and] at hf
            simp [autoOk, ← hf]
          · have hw3 : AC Tryz.prog 136 [ints nx[k], .int .i64 s] (.bool true) := hr ▸ spec_l01Map (by omega) hl
            repeat (first | refine awp_seq ?_ | refine then_n ?_ | refine then_r ?_ | refine then_x ?_ | refine block_n ?_ | refine block_r ?_ | refine block_x ?_ | refine u_y ?_ | refine loop_r ?_ | refine loop_x ?_ | refine awp_region ?_ | refine awpL_nil ?_ | refine awpQL_nil ?_ | refine awp_block ?_ | refine awp_skip ?_ | refine awp_exit ?_ | refine awp_label ?_ | refine u_dT ?_ | refine u_d ?_ | ((first | apply c_l | apply c_q | apply c_lr | apply c_qr); (iterate 2 exact rfl); (focus (first | exact hw3)); (iterate 2 exact rfl)) | (apply v_c; (iterate 4 exact rfl); (focus (first | exact hw3)); (iterate 2 exact rfl)) | refine u_l ?_ | refine u_o ?_ | refine u_q ?_ | refine u_lr ?_ | refine u_qr ?_ | refine u_ls ?_ | refine u_qs ?_ | refine u_t ?_ | refine u_f ?_ | refine v_s ?_ | refine v_o ?_ | refine v_on ?_ | refine v_og ?_ | refine v_q ?_ | refine v_sr ?_ | refine v_k ?_ | refine m_nil ?_)
            rw [hr] at hf
            refine loop_n (k + 1) ⟨by omega, by simpa using hf⟩ ?_ rfl (by omega)
            ((repeat (first | exact trivial | (refine ⟨?_, ?_⟩; (focus (first | rfl | (simp [lk, argsS, args0]; done) | (simp [lk, argsS, args0]; omega)))))))
        · have : k = nx.length := by omega
          subst this
          repeat (first | refine awp_seq ?_ | refine then_n ?_ | refine then_r ?_ | refine then_x ?_ | refine block_n ?_ | refine block_r ?_ | refine block_x ?_ | refine u_y ?_ | refine loop_r ?_ | refine loop_x ?_ | refine awp_region ?_ | refine awpL_nil ?_ | refine awpQL_nil ?_ | refine awp_block ?_ | refine awp_skip ?_ | refine awp_exit ?_ | refine awp_label ?_ | refine u_dT ?_ | refine u_d ?_ | refine u_l ?_ | refine u_o ?_ | refine u_q ?_ | refine u_lr ?_ | refine u_qr ?_ | refine u_ls ?_ | refine u_qs ?_ | refine u_t ?_ | refine u_f ?_ | refine v_s ?_ | refine v_o ?_ | refine v_on ?_ | refine v_og ?_ | refine v_q ?_ | refine v_sr ?_ | refine v_k ?_ | refine m_nil ?_)
          (refine awp_ret ?_; (repeat (first | refine then_r ?_ | refine block_r ?_ | refine loop_r ?_)); apply ret_ok (.inr rfl); (focus exact rfl))
          simp only [List.drop_length, List.all_nil] at hf
          simp [autoOk, ← hf, hb, hc]
  · have hb : inB s 1 10 = false := by simp [inB]; omega
    have hw : AC Tryz.prog 79 [.int .i64 s, .int .i64 1, .int .i64 10] (.bool false) := hb ▸ spec_l00In
    refine ac_intro tabIs _ Tryz.func113 rfl rfl Tryz.ntmps113 rfl rfl fun w0 ok0 => ?_
    repeat (first | refine awp_seq ?_ | refine then_n ?_ | refine then_r ?_ | refine then_x ?_ | refine block_n ?_ | refine block_r ?_ | refine block_x ?_ | refine u_y ?_ | refine loop_r ?_ | refine loop_x ?_ | refine awp_region ?_ | refine awpL_nil ?_ | refine awpQL_nil ?_ | refine awp_block ?_ | refine awp_skip ?_ | refine awp_exit ?_ | refine awp_label ?_ | refine u_dT ?_ | refine u_d ?_ | ((first | apply c_l | apply c_q | apply c_lr | apply c_qr); (iterate 2 exact rfl); (focus (first | exact hw)); (iterate 2 exact rfl)) | (apply v_c; (iterate 4 exact rfl); (focus (first | exact hw)); (iterate 2 exact rfl)) | refine u_l ?_ | refine u_o ?_ | refine u_q ?_ | refine u_lr ?_ | refine u_qr ?_ | refine u_ls ?_ | refine u_qs ?_ | refine u_t ?_ | refine u_f ?_ | refine v_s ?_ | refine v_o ?_ | refine v_on ?_ | refine v_og ?_ | refine v_q ?_ | refine v_sr ?_ | refine v_k ?_ | refine m_nil ?_)
    (refine awp_ret ?_; (repeat (first | refine then_r ?_ | refine block_r ?_ | refine loop_r ?_)); apply ret_ok (.inr rfl); (focus exact rfl))
    simp [autoOk, hb]

theorem spec_l08Ok {s : Int} {nx : List (List Int)} {lp : List Int} (h : RowsOk nx) (h2 : lp.length ≤ 9223372036854775807) : AC Tryz.prog 77 [.ptr (.agg [.int .i64 s, rows nx, ints lp])] (.bool (litOk s nx lp)) := by
  have hle : (List.map (D.int IntKind.i64) lp).length = lp.length := by simp
  cases ha : autoOk s nx
  · have hw : AC Tryz.prog 113 [.ptr (.agg [.int .i64 s, rows nx])] (.bool false) := ha ▸ spec_l01Ok h
    refine ac_intro tabIs _ Tryz.func77 rfl rfl Tryz.ntmps77 rfl rfl fun w0 ok0 => ?_
    repeat (first | refine awp_seq ?_ | refine then_n ?_ | refine then_r ?_ | refine then_x ?_ | refine block_n ?_ | refine block_r ?_ | refine block_x ?_ | refine u_y ?_ | refine loop_r ?_ | refine loop_x ?_ | refine awp_region ?_ | refine awpL_nil ?_ | refine awpQL_nil ?_ | refine awp_block ?_ | refine awp_skip ?_ | refine awp_exit ?_ | refine awp_label ?_ | refine u_dT ?_ | refine u_d ?_ | ((first | apply c_l | apply c_q | apply c_lr | apply c_qr); (iterate 2 exact rfl); (focus (first | exact hw)); (iterate 2 exact rfl)) | (apply v_c; (iterate 4 exact rfl); (focus (first | exact hw)); (iterate 2 exact rfl)) | refine u_l ?_ | refine u_o ?_ | refine u_q ?_ | refine u_lr ?_ | refine u_qr ?_ | refine u_ls ?_ | refine u_qs ?_ | refine u_t ?_ | refine u_f ?_ | refine v_s ?_ | refine v_o ?_ | refine v_on ?_ | refine v_og ?_ | refine v_q ?_ | refine v_sr ?_ | refine v_k ?_ | refine m_nil ?_)
    (refine awp_ret ?_; (repeat (first | refine then_r ?_ | refine block_r ?_ | refine loop_r ?_)); apply ret_ok (.inr rfl); (focus exact rfl))
    simp [litOk, ha]
  · have hw : AC Tryz.prog 113 [.ptr (.agg [.int .i64 s, rows nx])] (.bool true) := ha ▸ spec_l01Ok h
    by_cases hs : (lp.length : Int) = s
    · have hs' : ((List.map (D.int IntKind.i64) lp).length : Int) = s := by rw [hle]; exact hs
      refine ac_intro tabIs _ Tryz.func77 rfl rfl Tryz.ntmps77 rfl rfl fun w0 ok0 => ?_
      repeat (first | refine awp_seq ?_ | refine then_n ?_ | refine then_r ?_ | refine then_x ?_ | refine block_n ?_ | refine block_r ?_ | refine block_x ?_ | refine u_y ?_ | refine loop_r ?_ | refine loop_x ?_ | refine awp_region ?_ | refine awpL_nil ?_ | refine awpQL_nil ?_ | refine awp_block ?_ | refine awp_skip ?_ | refine awp_exit ?_ | refine awp_label ?_ | refine u_dT ?_ | refine u_d ?_ | ((first | apply c_l | apply c_q | apply c_lr | apply c_qr); (iterate 2 exact rfl); (focus (first | exact hw)); (iterate 2 exact rfl)) | (apply v_c; (iterate 4 exact rfl); (focus (first | exact hw)); (iterate 2 exact rfl)) | refine u_l ?_ | refine u_o ?_ | refine u_q ?_ | refine u_lr ?_ | refine u_qr ?_ | refine u_ls ?_ | refine u_qs ?_ | refine u_t ?_ | refine u_f ?_ | refine v_s ?_ | refine v_o ?_ | refine v_on ?_ | refine v_og ?_ | refine v_q ?_ | refine v_sr ?_ | refine v_k ?_ | refine m_nil ?_)
      refine awp_loop (fun k : Nat => k ≤ lp.length ∧ allIn (lp.drop k) 0 3 = allIn lp 0 3)
        (fun k => [(0, .d (.ptr (.agg [.int .i64 s, rows nx, ints lp]))), (3, .d (.int .i64 k))]) (fun _ => []) (fun k => lp.length - k) 0 (by simp) ?_ rfl ?_
      · ((repeat (first | exact trivial | (refine ⟨?_, ?_⟩; (focus (first | rfl | (simp [lk, argsS, args0]; done) | (simp [lk, argsS, args0]; omega)))))))
      · rintro k ⟨hk, hf⟩
        by_cases hlt : k < lp.length
        · have hx := el_int hlt
          unfold allIn at hf
          rw [all_drop _ hlt] at hf
          cases hb : inB lp[k] 0 3
          · have hw2 : AC Tryz.prog 79 [.int .i64 lp[k], .int .i64 0, .int .i64 3] (.bool false) := hb ▸ spec_l00In
            repeat (first | refine awp_seq ?_ | refine then_n ?_ | refine then_r ?_ | refine then_x ?_ | refine block_n ?_ | refine block_r ?_ | refine block_x ?_ | refine u_y ?_ | refine loop_r ?_ | refine loop_x ?_ | refine awp_region ?_ | refine awpL_nil ?_ | refine awpQL_nil ?_ | refine awp_block ?_ | refine awp_skip ?_ | refine awp_exit ?_ | refine awp_label ?_ | refine u_dT ?_ | refine u_d ?_ | ((first | apply c_l | apply c_q | apply c_lr | apply c_qr); (iterate 2 exact rfl); (focus (first | exact hw2)); (iterate 2 exact rfl)) | (apply v_c; (iterate 4 exact rfl); (focus (first | exact hw2)); (iterate 2 exact rfl)) | refine u_l ?_ | refine u_o ?_ | refine u_q ?_ | refine u_lr ?_ | refine u_qr ?_ | refine u_ls ?_ | refine u_qs ?_ | refine u_t ?_ | refine u_f ?_ | refine v_s ?_ | refine v_o ?_ | refine v_on ?_ | refine v_og ?_ | refine v_q ?_ | refine v_sr ?_ | refine v_k ?_ | refine m_nil ?_)
            (refine awp_ret ?_; (repeat (first | refine then_r ?_ | refine block_r ?_ | refine loop_r ?_)); apply ret_ok (.inr rfl); (focus exact rfl))
            rw [hb] at hf
            simp only [Bool.false_and] at hf
            simp [litOk, allIn, ← hf]
          · have hw2 : AC Tryz.prog 79 [.int .i64 lp[k], .int .i64 0, .int .i64 3] (.bool true) := hb ▸ spec_l00In
            repeat (first | refine awp_seq ?_ | refine then_n ?_ | refine then_r ?_ | refine then_x ?_ | refine block_n ?_ | refine block_r ?_ | refine block_x ?_ | refine u_y ?_ | refine loop_r ?_ | refine loop_x ?_ | refine awp_region ?_ | refine awpL_nil ?_ | refine awpQL_nil ?_ | refine awp_block ?_ | refine awp_skip ?_ | refine awp_exit ?_ | refine awp_label ?_ | refine u_dT ?_ | refine u_d ?_ | ((first | apply c_l | apply c_q | apply c_lr | apply c_qr); (iterate 2 exact rfl); (focus (first | exact hw2)); (iterate 2 exact rfl)) | (apply v_c; (iterate 4 exact rfl); (focus (first | exact hw2)); (iterate 2 exact rfl)) | refine u_l ?_ | refine u_o ?_ | refine u_q ?_ | refine u_lr ?_ | refine u_qr ?_ | refine u_ls ?_ | refine u_qs ?_ | refine u_t ?_ | refine u_f ?_ | refine v_s ?_ | refine v_o ?_ | refine v_on ?_ | refine v_og ?_ | refine v_q ?_ | refine v_sr ?_ | refine v_k ?_ | refine m_nil ?_)
            rw [hb] at hf
            refine loop_n (k + 1) ⟨by omega, by simpa [allIn] using hf⟩ ?_ rfl (by omega)
            ((repeat (first | exact trivial | (refine ⟨?_, ?_⟩; (focus (first | rfl | (simp [lk, argsS, args0]; done) | (simp [lk, argsS, args0]; omega)))))))
        · have : k = lp.length := by omega
          subst this
          repeat (first | refine awp_seq ?_ | refine then_n ?_ | refine then_r ?_ | refine then_x ?_ | refine block_n ?_ | refine block_r ?_ | refine block_x ?_ | refine u_y ?_ | refine loop_r ?_ | refine loop_x ?_ | refine awp_region ?_ | refine awpL_nil ?_ | refine awpQL_nil ?_ | refine awp_block ?_ | refine awp_skip ?_ | refine awp_exit ?_ | refine awp_label ?_ | refine u_dT ?_ | refine u_d ?_ | refine u_l ?_ | refine u_o ?_ | refine u_q ?_ | refine u_lr ?_ | refine u_qr ?_ | refine u_ls ?_ | refine u_qs ?_ | refine u_t ?_ | refine u_f ?_ | refine v_s ?_ | refine v_o ?_ | refine v_on ?_ | refine v_og ?_ | refine v_q ?_ | refine v_sr ?_ | refine v_k ?_ | refine m_nil ?_)
          (refine awp_ret ?_; (repeat (first | refine then_r ?_ | refine block_r ?_ | refine loop_r ?_)); apply ret_ok (.inr rfl); (focus exact rfl))
          simp [allIn] at hf
          simp [litOk, allIn, ha, hs]
          exact hf
    · have hs' : ¬ ((List.map (D.int IntKind.i64) lp).length : Int) = s := by rw [hle]; exact hs
      refine ac_intro tabIs _ Tryz.func77 rfl rfl Tryz.ntmps77 rfl rfl fun w0 ok0 => ?_
      repeat (first | refine awp_seq ?_ | refine then_n ?_ | refine then_r ?_ | refine then_x ?_ | refine block_n ?_ | refine block_r ?_ | refine block_x ?_ | refine u_y ?_ | refine loop_r ?_ | refine loop_x ?_ | refine awp_region ?_ | refine awpL_nil ?_ | refine awpQL_nil ?_ | refine awp_block ?_ | refine awp_skip ?_ | refine awp_exit ?_ | refine awp_label ?_ | refine u_dT ?_ | refine u_d ?_ | ((first | apply c_l | apply c_q | apply c_lr | apply c_qr); (iterate 2 exact rfl); (focus (first | exact hw)); (iterate 2 exact rfl)) | (apply v_c; (iterate 4 exact rfl); (focus (first | exact hw)); (iterate 2 exact rfl)) | refine u_l ?_ | refine u_o ?_ | refine u_q ?_ | refine u_lr ?_ | refine u_qr ?_ | refine u_ls ?_ | refine u_qs ?_ | refine u_t ?_ | refine u_f ?_ | refine v_s ?_ | refine v_o ?_ | refine v_on ?_ | refine v_og ?_ | refine v_q ?_ | refine v_sr ?_ | refine v_k ?_ | refine m_nil ?_)
      (refine awp_ret ?_; (repeat (first | refine then_r ?_ | refine block_r ?_ | refine loop_r ?_)); apply ret_ok (.inr rfl); (focus exact rfl))
      simp [litOk, hs]

end Go.Proofs.YtampglcgipefnaaGreat

/-! Contracts of how the laws' package measures, copies and compares lit automata; the law of ValidLit. No condition. -/
namespace Go.Proofs.YtampglcgipefnaaGreat
open Go
attribute [local irreducible] awp awpL awpQL awpQ awpM pWalk Qt AC thenQ blockQ loopQ OpTo
set_option linter.unusedVariables false
set_option linter.unusedSimpArgs false
set_option maxHeartbeats 2000000

theorem szR_sign {nx : List (List Int)} {left : Int} (h : 0 ≤ left) : -1 ≤ szR nx left := by
  have : ∀ (l : List (List Int)) (left : Int), 0 ≤ left → -1 ≤ szLs left l := by
    intro l
    induction l with
    | nil => intro left h; simp [szLs]; omega
    | cons x l ih =>
      intro left h
      unfold szLs
      split
      · omega
      · exact ih _ (by omega)
  unfold szR
  split
  · omega
  · exact this _ _ (by omega)

def szA (nx : List (List Int)) (left : Int) : Int := if szR nx left < 0 then -1 else szR nx left

theorem laws_szAutomaton {s : Int} {nx : List (List Int)} {left : Int} (h1 : RowsOk nx) (h2 : 0 ≤ left ∧ left ≤ 1048576) : AC Tryz.prog 39 [.agg [.int .i64 s, rows nx], .int .i64 left] (.int .i64 (szA nx left)) := by
  by_cases hc : szR nx left < 0
  · refine ac_intro tabIs _ Tryz.func39 rfl rfl Tryz.ntmps39 rfl rfl fun w0 ok0 => ?_
    repeat (first | refine awp_seq ?_ | refine then_n ?_ | refine then_r ?_ | refine then_x ?_ | refine block_n ?_ | refine block_r ?_ | refine block_x ?_ | refine u_y ?_ | refine loop_r ?_ | refine loop_x ?_ | refine awp_region ?_ | refine awpL_nil ?_ | refine awpQL_nil ?_ | refine awp_block ?_ | refine awp_skip ?_ | refine awp_exit ?_ | refine awp_label ?_ | refine u_dT ?_ | refine u_d ?_ | ((first | apply c_l | apply c_q | apply c_lr | apply c_qr); (iterate 2 exact rfl); (focus (first | (apply laws_szInt64SS; (iterate 2 (focus (first | assumption | omega | (simp; omega) | (simp; done) | rfl)))))); (iterate 2 exact rfl)) | (apply v_c; (iterate 4 exact rfl); (focus (first | (apply laws_szInt64SS; (iterate 2 (focus (first | assumption | omega | (simp; omega) | (simp; done) | rfl)))))); (iterate 2 exact rfl)) | refine u_l ?_ | refine u_o ?_ | refine u_q ?_ | refine u_lr ?_ | refine u_qr ?_ | refine u_ls ?_ | refine u_qs ?_ | refine u_t ?_ | refine u_f ?_ | refine v_s ?_ | refine v_o ?_ | refine v_on ?_ | refine v_og ?_ | refine v_q ?_ | refine v_sr ?_ | refine v_k ?_ | refine m_nil ?_)
    (refine awp_ret ?_; (repeat (first | refine then_r ?_ | refine block_r ?_ | refine loop_r ?_)); apply ret_ok (.inr rfl); (focus exact rfl))
    simp only [szA, if_pos hc]
  · refine ac_intro tabIs _ Tryz.func39 rfl rfl Tryz.ntmps39 rfl rfl fun w0 ok0 => ?_
    repeat (first | refine awp_seq ?_ | refine then_n ?_ | refine then_r ?_ | refine then_x ?_ | refine block_n ?_ | refine block_r ?_ | refine block_x ?_ | refine u_y ?_ | refine loop_r ?_ | refine loop_x ?_ | refine awp_region ?_ | refine awpL_nil ?_ | refine awpQL_nil ?_ | refine awp_block ?_ | refine awp_skip ?_ | refine awp_exit ?_ | refine awp_label ?_ | refine u_dT ?_ | refine u_d ?_ | ((first | apply c_l | apply c_q | apply c_lr | apply c_qr); (iterate 2 exact rfl); (focus (first | (apply laws_szInt64SS; (iterate 2 (focus (first | assumption | omega | (simp; omega) | (simp; done) | rfl)))))); (iterate 2 exact rfl)) | (apply v_c; (iterate 4 exact rfl); (focus (first | (apply laws_szInt64SS; (iterate 2 (focus (first | assumption | omega | (simp; omega) | (simp; done) | rfl)))))); (iterate 2 exact rfl)) | refine u_l ?_ | refine u_o ?_ | refine u_q ?_ | refine u_lr ?_ | refine u_qr ?_ | refine u_ls ?_ | refine u_qs ?_ | refine u_t ?_ | refine u_f ?_ | refine v_s ?_ | refine v_o ?_ | refine v_on ?_ | refine v_og ?_ | refine v_q ?_ | refine v_sr ?_ | refine v_k ?_ | refine m_nil ?_)
    (refine awp_ret ?_; (repeat (first | refine then_r ?_ | refine block_r ?_ | refine loop_r ?_)); apply ret_ok (.inr rfl); (focus exact rfl))
    simp only [szA, if_neg hc]

theorem szA_ok {nx : List (List Int)} {left : Int} (h : 0 ≤ left) : szA nx left ≤ left ∧ -1 ≤ szA nx left ∧ (0 ≤ szA nx left → (nx.length : Int) ≤ left ∧ ∀ ns ∈ nx, (ns.length : Int) ≤ left) := by
  have := szR_ok (nss := nx) h
  have := szR_sign (nx := nx) h
  unfold szA
  split
  · omega
  · refine ⟨by omega, by omega, fun hh => (szR_ok h).2 hh⟩

def szLitF (nx : List (List Int)) (lp : List Int) (left : Int) : Int := if szA nx left < 0 then -1 else if szL lp.length (szA nx left) < 0 then -1 else szL lp.length (szA nx left)

theorem laws_szLit {s : Int} {nx : List (List Int)} {lp : List Int} {left : Int} (h1 : RowsOk nx) (h3 : lp.length ≤ 9223372036854775807) (h2 : 0 ≤ left ∧ left ≤ 1048576) : AC Tryz.prog 9 [.agg [.int .i64 s, rows nx, ints lp], .int .i64 left] (.int .i64 (szLitF nx lp left)) := by
  have hok := szA_ok (nx := nx) h2.1
  by_cases hc : szA nx left < 0
  · refine ac_intro tabIs _ Tryz.func9 rfl rfl Tryz.ntmps9 rfl rfl fun w0 ok0 => ?_
    repeat (first | refine awp_seq ?_ | refine then_n ?_ | refine then_r ?_ | refine then_x ?_ | refine block_n ?_ | refine block_r ?_ | refine block_x ?_ | refine u_y ?_ | refine loop_r ?_ | refine loop_x ?_ | refine awp_region ?_ | refine awpL_nil ?_ | refine awpQL_nil ?_ | refine awp_block ?_ | refine awp_skip ?_ | refine awp_exit ?_ | refine awp_label ?_ | refine u_dT ?_ | refine u_d ?_ | ((first | apply c_l | apply c_q | apply c_lr | apply c_qr); (iterate 2 exact rfl); (focus (first | (apply laws_szAutomaton; (iterate 2 (focus (first | assumption | omega | (simp; omega) | (simp; done) | rfl)))))); (iterate 2 exact rfl)) | (apply v_c; (iterate 4 exact rfl); (focus (first | (apply laws_szAutomaton; (iterate 2 (focus (first | assumption | omega | (simp; omega) | (simp; done) | rfl)))))); (iterate 2 exact rfl)) | refine u_l ?_ | refine u_o ?_ | refine u_q ?_ | refine u_lr ?_ | refine u_qr ?_ | refine u_ls ?_ | refine u_qs ?_ | refine u_t ?_ | refine u_f ?_ | refine v_s ?_ | refine v_o ?_ | refine v_on ?_ | refine v_og ?_ | refine v_q ?_ | refine v_sr ?_ | refine v_k ?_ | refine m_nil ?_)
    (refine awp_ret ?_; (repeat (first | refine then_r ?_ | refine block_r ?_ | refine loop_r ?_)); apply ret_ok (.inr rfl); (focus exact rfl))
    simp only [szLitF, if_pos hc]
  · have h4 : 0 ≤ szA nx left ∧ szA nx left ≤ 1048576 := by omega
    by_cases hd : szL lp.length (szA nx left) < 0
    · refine ac_intro tabIs _ Tryz.func9 rfl rfl Tryz.ntmps9 rfl rfl fun w0 ok0 => ?_
      repeat (first | refine awp_seq ?_ | refine then_n ?_ | refine then_r ?_ | refine then_x ?_ | refine block_n ?_ | refine block_r ?_ | refine block_x ?_ | refine u_y ?_ | refine loop_r ?_ | refine loop_x ?_ | refine awp_region ?_ | refine awpL_nil ?_ | refine awpQL_nil ?_ | refine awp_block ?_ | refine awp_skip ?_ | refine awp_exit ?_ | refine awp_label ?_ | refine u_dT ?_ | refine u_d ?_ | ((first | apply c_l | apply c_q | apply c_lr | apply c_qr); (iterate 2 exact rfl); (focus (first | (apply laws_szAutomaton; (iterate 2 (focus (first | assumption | omega | (simp; omega) | (simp; done) | rfl)))) | (apply laws_szInt64S; (iterate 2 (focus (first | assumption | omega | (simp; omega) | (simp; done) | rfl)))))); (iterate 2 exact rfl)) | (apply v_c; (iterate 4 exact rfl); (focus (first | (apply laws_szAutomaton; (iterate 2 (focus (first | assumption | omega | (simp; omega) | (simp; done) | rfl)))) | (apply laws_szInt64S; (iterate 2 (focus (first | assumption | omega | (simp; omega) | (simp; done) | rfl)))))); (iterate 2 exact rfl)) | refine u_l ?_ | refine u_o ?_ | refine u_q ?_ | refine u_lr ?_ | refine u_qr ?_ | refine u_ls ?_ | refine u_qs ?_ | refine u_t ?_ | refine u_f ?_ | refine v_s ?_ | refine v_o ?_ | refine v_on ?_ | refine v_og ?_ | refine v_q ?_ | refine v_sr ?_ | refine v_k ?_ | refine m_nil ?_)
      (refine awp_ret ?_; (repeat (first | refine then_r ?_ | refine block_r ?_ | refine loop_r ?_)); apply ret_ok (.inr rfl); (focus exact rfl))
      simp only [szLitF, if_neg hc, if_pos hd]
    · refine ac_intro tabIs _ Tryz.func9 rfl rfl Tryz.ntmps9 rfl rfl fun w0 ok0 => ?_
      repeat (first | refine awp_seq ?_ | refine then_n ?_ | refine then_r ?_ | refine then_x ?_ | refine block_n ?_ | refine block_r ?_ | refine block_x ?_ | refine u_y ?_ | refine loop_r ?_ | refine loop_x ?_ | refine awp_region ?_ | refine awpL_nil ?_ | refine awpQL_nil ?_ | refine awp_block ?_ | refine awp_skip ?_ | refine awp_exit ?_ | refine awp_label ?_ | refine u_dT ?_ | refine u_d ?_ | ((first | apply c_l | apply c_q | apply c_lr | apply c_qr); (iterate 2 exact rfl); (focus (first | (apply laws_szAutomaton; (iterate 2 (focus (first | assumption | omega | (simp; omega) | (simp; done) | rfl)))) | (apply laws_szInt64S; (iterate 2 (focus (first | assumption | omega | (simp; omega) | (simp; done) | rfl)))))); (iterate 2 exact rfl)) | (apply v_c; (iterate 4 exact rfl); (focus (first | (apply laws_szAutomaton; (iterate 2 (focus (first | assumption | omega | (simp; omega) | (simp; done) | rfl)))) | (apply laws_szInt64S; (iterate 2 (focus (first | assumption | omega | (simp; omega) | (simp; done) | rfl)))))); (iterate 2 exact rfl)) | refine u_l ?_ | refine u_o ?_ | refine u_q ?_ | refine u_lr ?_ | refine u_qr ?_ | refine u_ls ?_ | refine u_qs ?_ | refine u_t ?_ | refine u_f ?_ | refine v_s ?_ | refine v_o ?_ | refine v_on ?_ | refine v_og ?_ | refine v_q ?_ | refine v_sr ?_ | refine v_k ?_ | refine m_nil ?_)
      (refine awp_ret ?_; (repeat (first | refine then_r ?_ | refine block_r ?_ | refine loop_r ?_)); apply ret_ok (.inr rfl); (focus exact rfl))
      simp only [szLitF, if_neg hc, if_neg hd]

theorem laws_toAutomaton {s : Int} {nx : List (List Int)} (h1 : nx.length ≤ 1048576) (h2 : ∀ ns ∈ nx, ns.length ≤ 1048576) : AC Tryz.prog 43 [.agg [.int .i64 s, rows nx]] (.agg [.int .i64 s, rows nx]) := by
  refine ac_introC tabIs _ Tryz.func43 rfl rfl Tryz.ntmps43 rfl rfl fun w0 ok0 => ?_
  repeat' (first | refine awp_seq ?_ | refine then_n ?_ | refine then_r ?_ | refine then_x ?_ | refine block_n ?_ | refine block_r ?_ | refine block_x ?_ | refine u_y ?_ | refine loop_r ?_ | refine loop_x ?_ | refine awp_region ?_ | refine awpL_nil ?_ | refine awpQL_nil ?_ | refine awp_block ?_ | refine awp_skip ?_ | refine awp_exit ?_ | refine awp_label ?_ | refine u_dT ?_ | refine u_d ?_ | ((first | apply c_l | apply c_q | apply c_lr | apply c_qr); (iterate 2 exact rfl); (focus (first | (apply laws_toInt64SS; (iterate 2 (focus (first | assumption | omega | (simp; omega) | (simp; done) | rfl)))))); (iterate 2 exact rfl)) | (apply v_c; (iterate 4 exact rfl); (focus (first | (apply laws_toInt64SS; (iterate 2 (focus (first | assumption | omega | (simp; omega) | (simp; done) | rfl)))))); (iterate 2 exact rfl)) | refine u_l ?_ | refine u_o ?_ | refine u_q ?_ | refine u_lr ?_ | refine u_qr ?_ | refine u_ls ?_ | refine u_qs ?_ | refine u_t ?_ | refine u_f ?_ | refine v_s ?_ | refine v_o ?_ | refine v_on ?_ | refine v_og ?_ | refine v_q ?_ | refine v_sr ?_ | refine v_k ?_ | refine m_nil ?_ | ((first | refine u_sl ?_ ?_ | refine u_sq ?_ ?_) <;> (intro hb; try (simp at hb; done))) | (refine u_c ?_ ?_ <;> (intro hc; try (simp at hc; done))) | refine awp_ret ?_ | refine u_r ?_ | refine u_rC ?_)
  rfl

theorem laws_toLit {s : Int} {nx : List (List Int)} {lp : List Int} (h1 : nx.length ≤ 1048576) (h2 : ∀ ns ∈ nx, ns.length ≤ 1048576) (h3 : lp.length ≤ 1048576) : AC Tryz.prog 12 [.agg [.int .i64 s, rows nx, ints lp]] (.agg [.int .i64 s, rows nx, ints lp]) := by
  refine ac_introC tabIs _ Tryz.func12 rfl rfl Tryz.ntmps12 rfl rfl fun w0 ok0 => ?_
  repeat' (first | refine awp_seq ?_ | refine then_n ?_ | refine then_r ?_ | refine then_x ?_ | refine block_n ?_ | refine block_r ?_ | refine block_x ?_ | refine u_y ?_ | refine loop_r ?_ | refine loop_x ?_ | refine awp_region ?_ | refine awpL_nil ?_ | refine awpQL_nil ?_ | refine awp_block ?_ | refine awp_skip ?_ | refine awp_exit ?_ | refine awp_label ?_ | refine u_dT ?_ | refine u_d ?_ | ((first | apply c_l | apply c_q | apply c_lr | apply c_qr); (iterate 2 exact rfl); (focus (first | (apply laws_toAutomaton; (iterate 2 (focus (first | assumption | omega | (simp; omega) | (simp; done) | rfl)))) | (apply laws_toInt64S; (iterate 1 (focus (first | assumption | omega | (simp; omega) | (simp; done) | rfl)))))); (iterate 2 exact rfl)) | (apply v_c; (iterate 4 exact rfl); (focus (first | (apply laws_toAutomaton; (iterate 2 (focus (first | assumption | omega | (simp; omega) | (simp; done) | rfl)))) | (apply laws_toInt64S; (iterate 1 (focus (first | assumption | omega | (simp; omega) | (simp; done) | rfl)))))); (iterate 2 exact rfl)) | refine u_l ?_ | refine u_o ?_ | refine u_q ?_ | refine u_lr ?_ | refine u_qr ?_ | refine u_ls ?_ | refine u_qs ?_ | refine u_t ?_ | refine u_f ?_ | refine v_s ?_ | refine v_o ?_ | refine v_on ?_ | refine v_og ?_ | refine v_q ?_ | refine v_sr ?_ | refine v_k ?_ | refine m_nil ?_ | ((first | refine u_sl ?_ ?_ | refine u_sq ?_ ?_) <;> (intro hb; try (simp at hb; done))) | (refine u_c ?_ ?_ <;> (intro hc; try (simp at hc; done))) | refine awp_ret ?_ | refine u_r ?_ | refine u_rC ?_)
  rfl

theorem laws_eqAutomaton {s s' : Int} {nx nx' : List (List Int)} (h1 : RowsOk nx) (h2 : RowsOk nx') : AC Tryz.prog 49 [.agg [.int .i64 s, rows nx], .agg [.int .i64 s', rows nx']] (.bool (decide (s = s') && decide (nx = nx'))) := by
  refine ac_intro tabIs _ Tryz.func49 rfl rfl Tryz.ntmps49 rfl rfl fun w0 ok0 => ?_
  repeat' (first | refine awp_seq ?_ | refine then_n ?_ | refine then_r ?_ | refine then_x ?_ | refine block_n ?_ | refine block_r ?_ | refine block_x ?_ | refine u_y ?_ | refine loop_r ?_ | refine loop_x ?_ | refine awp_region ?_ | refine awpL_nil ?_ | refine awpQL_nil ?_ | refine awp_block ?_ | refine awp_skip ?_ | refine awp_exit ?_ | refine awp_label ?_ | refine u_dT ?_ | refine u_d ?_ | ((first | apply c_l | apply c_q | apply c_lr | apply c_qr); (iterate 2 exact rfl); (focus (first | (apply laws_eqInt64SS; (iterate 2 (focus (first | assumption | omega | (simp; omega) | (simp; done) | rfl)))))); (iterate 2 exact rfl)) | (apply v_c; (iterate 4 exact rfl); (focus (first | (apply laws_eqInt64SS; (iterate 2 (focus (first | assumption | omega | (simp; omega) | (simp; done) | rfl)))))); (iterate 2 exact rfl)) | refine u_l ?_ | refine u_o ?_ | refine u_q ?_ | refine u_lr ?_ | refine u_qr ?_ | refine u_ls ?_ | refine u_qs ?_ | refine u_t ?_ | refine u_f ?_ | refine v_s ?_ | refine v_o ?_ | refine v_on ?_ | refine v_og ?_ | refine v_q ?_ | refine v_sr ?_ | refine v_k ?_ | refine m_nil ?_ | ((first | refine u_sl ?_ ?_ | refine u_sq ?_ ?_) <;> (intro hb; try (simp at hb; done))) | (refine u_c ?_ ?_ <;> (intro hc; try (simp at hc; done))) | refine awp_ret ?_ | refine u_r ?_ | refine u_rC ?_)
  all_goals simp_all

theorem laws_eqLit {s s' : Int} {nx nx' : List (List Int)} {lp lp' : List Int} (h1 : RowsOk nx) (h2 : RowsOk nx') (h3 : lp.length ≤ 9223372036854775807) (h4 : lp'.length ≤ 9223372036854775807) :
    AC Tryz.prog 15 [.agg [.int .i64 s, rows nx, ints lp], .agg [.int .i64 s', rows nx', ints lp']] (.bool ((decide (s = s') && decide (nx = nx')) && decide (lp = lp'))) := by
  refine ac_intro tabIs _ Tryz.func15 rfl rfl Tryz.ntmps15 rfl rfl fun w0 ok0 => ?_
  repeat' (first | refine awp_seq ?_ | refine then_n ?_ | refine then_r ?_ | refine then_x ?_ | refine block_n ?_ | refine block_r ?_ | refine block_x ?_ | refine u_y ?_ | refine loop_r ?_ | refine loop_x ?_ | refine awp_region ?_ | refine awpL_nil ?_ | refine awpQL_nil ?_ | refine awp_block ?_ | refine awp_skip ?_ | refine awp_exit ?_ | refine awp_label ?_ | refine u_dT ?_ | refine u_d ?_ | ((first | apply c_l | apply c_q | apply c_lr | apply c_qr); (iterate 2 exact rfl); (focus (first | (apply laws_eqAutomaton; (iterate 2 (focus (first | assumption | omega | (simp; omega) | (simp; done) | rfl)))) | (apply laws_eqInt64S; (iterate 2 (focus (first | assumption | omega | (simp; omega) | (simp; done) | rfl)))))); (iterate 2 exact rfl)) | (apply v_c; (iterate 4 exact rfl); (focus (first | (apply laws_eqAutomaton; (iterate 2 (focus (first | assumption | omega | (simp; omega) | (simp; done) | rfl)))) | (apply laws_eqInt64S; (iterate 2 (focus (first | assumption | omega | (simp; omega) | (simp; done) | rfl)))))); (iterate 2 exact rfl)) | refine u_l ?_ | refine u_o ?_ | refine u_q ?_ | refine u_lr ?_ | refine u_qr ?_ | refine u_ls ?_ | refine u_qs ?_ | refine u_t ?_ | refine u_f ?_ | refine v_s ?_ | refine v_o ?_ | refine v_on ?_ | refine v_og ?_ | refine v_q ?_ | refine v_sr ?_ | refine v_k ?_ | refine m_nil ?_ | ((first | refine u_sl ?_ ?_ | refine u_sq ?_ ?_) <;> (intro hb; try (simp at hb; done))) | (refine u_c ?_ ?_ <;> (intro hc; try (simp at hc; done))) | refine awp_ret ?_ | refine u_r ?_ | refine u_rC ?_)
  all_goals (simp_all; try (intro e1 e2; rcases hc with hc | hc <;> contradiction))

theorem szLitF_ok {nx : List (List Int)} {lp : List Int} (h : ¬ szLitF nx lp 1048576 < 0) : nx.length ≤ 1048576 ∧ (∀ ns ∈ nx, ns.length ≤ 1048576) ∧ lp.length ≤ 1048576 := by
  have hok := szA_ok (nx := nx) (left := 1048576) (by omega)
  unfold szLitF at h
  split at h
  · omega
  · split at h
    · omega
    · rename_i g1 g2
      have hl := (szL_le (n := lp.length) (left := szA nx 1048576) (by omega)).2 (by omega)
      obtain ⟨k1, k2, k3⟩ := hok
      obtain ⟨k4, k5⟩ := k3 (by omega)
      refine ⟨by omega, fun ns hn => ?_, by omega⟩
      have := k5 ns hn
      omega

end Go.Proofs.YtampglcgipefnaaGreat
