/- Suites read from texts: the reference and the program. No condition. -/
import Derived.Test.YtfondjnjdcijaaaDoorRy
namespace Go.Proofs.YtfondjnjdcijaaaDoor
open Go
attribute [local irreducible] awp awpL awpQL awpQ awpM pWalk Qt AC thenQ blockQ loopQ OpTo
set_option linter.unusedVariables false
set_option linter.unusedSimpArgs false
set_option maxHeartbeats 2000000
attribute [local irreducible] HC

theorem el_str {L : List (List UInt8)} {k : Nat} (h : k < L.length) : (L.map D.str)[((k : Nat) : Int).toNat]? = some (.str L[k]) := by simp [h]
theorem ini_len (l : List UInt8) : (lns l).length = (iniL l).length + 1 := by
  have := congrArg List.length (lns_split l)
  simpa using this
theorem ini_get {l : List UInt8} {i : Nat} (h : i < (iniL l).length) : (lns l)[i]'(by have := ini_len l; omega) = (iniL l)[i] := by
  have := lns_split l
  simp only [iniL, List.getElem_dropLast]
theorem take_rwd {l : List UInt8} {i : Nat} (h : i < (iniL l).length) : (wsS l).take (i + 1) = (wsS l).take i ++ [rwd (iniL l)[i]] := by
  have : i < (wsS l).length := by simpa [wsS] using h
  rw [List.take_succ_eq_append_getElem this]
  simp [wsS]

theorem impl_ReadSuite {l : List UInt8} (hl : l.length ≤ 1048576) : HC Tryd.prog 7 [.d (.str l)] [] (.tup [.own 30000, .d (.int .i64 (rsC l))]) [(30000, .rows 37 2 1 (rws (rsW l)) none)] := by
  unfold rsC rsW
  by_cases h2 : 20000 < l.length
  · have : rsOk l = false := by unfold rsOk; rw [decide_eq_false (by omega)]; simp
    rw [if_pos h2, this]
    refine hc_intro tabIs _ Tryd.func7 rfl rfl Tryd.ntmps7 rfl rfl rfl ?_ fun w0 ok0 XM XA anc => ?_
    · exact likeIn_nil
    repeat (first | refine awp_seq ?_ | refine then_n ?_ | refine then_r ?_ | refine then_x ?_ | refine block_n ?_ | refine block_r ?_ | refine block_x ?_ | refine u_y ?_ | refine loop_r ?_ | refine loop_x ?_ | refine awp_region ?_ | refine awpL_nil ?_ | refine awpQL_nil ?_ | refine awp_block ?_ | refine awp_skip ?_ | refine awp_exit ?_ | refine awp_label ?_ | refine u_dT ?_ | refine u_d ?_ | refine u_l ?_ | refine u_o ?_ | refine u_q ?_ | refine u_lr ?_ | refine u_qr ?_ | refine u_ls ?_ | refine u_qs ?_ | refine u_t ?_ | refine u_f ?_ | refine v_s ?_ | refine v_o ?_ | refine v_on ?_ | refine v_og ?_ | refine v_q ?_ | refine v_sr ?_ | refine v_k ?_ | refine m_nil ?_)
    refine awp_nilSlot 2 300 37 1 rfl rfl rfl ?_
    refine awp_toRows 300 2 1 rfl rfl rfl rfl ?_
    (refine awp_ret ?_; (repeat (first | refine then_r ?_ | refine block_r ?_ | refine loop_r ?_)); refine u_rH [(300, 30000)] ?_ ?_)
    · rfl
    · rfl
  · rw [if_neg h2]
    have e1 := strings_Split hl
    have hlm : ((lns l).map D.str).length = (iniL l).length + 1 := by rw [List.length_map]; exact ini_len l
    have hels := elsStr (lns l)
    have hwm : (wsS l).length = (iniL l).length := by simp [wsS]
    have hll := lns_len l
    rw [ini_len] at hll
    refine hc_intro tabIs _ Tryd.func7 rfl rfl Tryd.ntmps7 rfl rfl rfl ?_ fun w0 ok0 XM XA anc => ?_
    · exact likeIn_nil
    repeat (first | refine v_w (t := 13) ?_ | refine awp_seq ?_ | refine then_n ?_ | refine then_r ?_ | refine then_x ?_ | refine block_n ?_ | refine block_r ?_ | refine block_x ?_ | refine u_y ?_ | refine loop_r ?_ | refine loop_x ?_ | refine awp_region ?_ | refine awpL_nil ?_ | refine awpQL_nil ?_ | refine awp_block ?_ | refine awp_skip ?_ | refine awp_exit ?_ | refine awp_label ?_ | refine u_dT ?_ | refine u_d ?_ | refine u_w (t := 13) ?_ | ((first | apply x_l | apply x_q | apply x_lr | apply x_qr); (focus (first | (apply qa_slice_h; (iterate 8 (focus (first | exact rfl | (first | assumption | omega | (simp; omega) | (simp; done) | rfl))))))); exact rfl) | ((first | apply c_l | apply c_q | apply c_lr | apply c_qr); (iterate 2 exact rfl); (focus (first | exact e1)); (iterate 2 exact rfl)) | (apply v_x; (iterate 2 exact rfl); (focus (intro ok0 nw hle; (first | (apply qa_slice_h; (iterate 8 (focus (first | exact rfl | (first | assumption | omega | (simp; omega) | (simp; done) | rfl)))))))); (iterate 2 exact rfl)) | (apply v_c; (iterate 4 exact rfl); (focus (first | exact e1)); (iterate 2 exact rfl)) | refine u_l ?_ | refine u_o ?_ | refine u_q ?_ | refine u_lr ?_ | refine u_qr ?_ | refine u_ls ?_ | refine u_qs ?_ | refine u_t ?_ | refine u_f ?_ | refine v_s ?_ | refine v_o ?_ | refine v_on ?_ | refine v_og ?_ | refine v_q ?_ | refine v_sr ?_ | refine v_k ?_ | refine m_nil ?_)
    refine awp_toRows 13 2 1 rfl rfl rfl rfl ?_
    refine awp_loop (fun i : Nat => i ≤ (iniL l).length ∧ ∀ j p, j < i → (iniL l)[j]? = some p → (rwS p).isSome = true) (fun i => [(0, .d (.str l)), (4, .own 13), (20, .d (.lst (((lns l).map D.str).take ((((lns l).map D.str).length : Nat) - 1 : Int).toNat))), (21, .d (.int .i64 (((lns l).map D.str).take ((((lns l).map D.str).length : Nat) - 1 : Int).toNat).length)), (22, .d (.int .i64 i))]) (fun i => [(13, .rows 37 2 1 (rws ((wsS l).take i)) none)]) (fun i => (iniL l).length - i) 0 ⟨by omega, fun j p h => by omega⟩ ?_ rfl ?_
    · ((repeat (first | exact trivial | (refine ⟨?_, ?_⟩; (focus (first | rfl | (simp [lk, argsS, args0]; done) | (simp [lk, argsS, args0]; omega)))))))
    · rintro i ⟨hi, hok⟩
      have htl : (((lns l).map D.str).take ((((lns l).map D.str).length : Nat) - 1 : Int).toNat).length = (iniL l).length := by simp [ini_len]
      by_cases hlt : i < (iniL l).length
      · have hdc : decide (((i : Nat) : Int) < (((((lns l).map D.str).take ((((lns l).map D.str).length : Nat) - 1 : Int).toNat).length : Nat) : Int)) = true := decide_eq_true (by omega)
        have hx := el_str (L := lns l) (k := i) (by rw [ini_len]; omega)
        rw [ini_get hlt] at hx
        have hx2 : (((lns l).map D.str).take ((((lns l).map D.str).length : Nat) - 1 : Int).toNat)[((i : Nat) : Int).toNat]? = some (.str (iniL l)[i]) := by
          rw [List.getElem?_take_of_lt (by rw [hlm]; omega)]
          exact hx
        have hpl : (iniL l)[i].length ≤ 1048576 := by
          have := lns_memLen (l := l) (p := (iniL l)[i]) (by rw [lns_split]; simp)
          omega
        have e2 := impl_ReadWord hpl
        have e3 := fun w => impl_ReadWordH (w := w) hpl
        have htk := take_rwd hlt
        have hip : (iniL l)[i]? = some (iniL l)[i] := List.getElem?_eq_getElem hlt
        generalize (iniL l)[i] = p at *
        unfold rwE at e2
        cases hr : rwS p with
        | none =>
          rw [hr] at e2
          have : rsOk l = false := by
            refine Bool.eq_false_iff.2 fun h => ?_
            simp only [rsOk, Bool.and_eq_true, List.all_eq_true] at h
            have := h.1.1.2 p (List.mem_of_getElem? hip)
            rw [hr] at this
            cases this
          rw [this]
          clear e3
          repeat (first | refine awp_seq ?_ | refine then_n ?_ | refine then_r ?_ | refine then_x ?_ | refine block_n ?_ | refine block_r ?_ | refine block_x ?_ | refine u_y ?_ | refine loop_r ?_ | refine loop_x ?_ | refine awp_region ?_ | refine awpL_nil ?_ | refine awpQL_nil ?_ | refine awp_block ?_ | refine awp_skip ?_ | refine awp_exit ?_ | refine awp_label ?_ | refine u_dT ?_ | refine u_d ?_ | ((first | apply c_l | apply c_q | apply c_lr | apply c_qr); (iterate 2 exact rfl); (focus (first | exact e2)); (iterate 2 exact rfl)) | (apply v_c; (iterate 4 exact rfl); (focus (first | exact e2)); (iterate 2 exact rfl)) | refine u_l ?_ | refine u_o ?_ | refine u_q ?_ | refine u_lr ?_ | refine u_qr ?_ | refine u_ls ?_ | refine u_qs ?_ | refine u_t ?_ | refine u_f ?_ | refine v_s ?_ | refine v_o ?_ | refine v_on ?_ | refine v_og ?_ | refine v_q ?_ | refine v_sr ?_ | refine v_k ?_ | refine m_nil ?_)
          refine awp_nilSlot 2 300 37 1 rfl rfl rfl ?_
          refine awp_toRows 300 2 1 rfl rfl rfl rfl ?_
          (refine awp_ret ?_; (repeat (first | refine then_r ?_ | refine block_r ?_ | refine loop_r ?_)); refine u_rH [(300, 30000)] ?_ ?_)
          · rfl
          · rfl
        | some w =>
          have e3 := e3 w hr
          have hwq := rwS_eq hr
          subst hwq
          have hok' : ∀ j q, j < i + 1 → (iniL l)[j]? = some q → (rwS q).isSome = true := fun j q hj hq => by
            by_cases e : j = i
            · subst e
              rw [hip] at hq
              cases hq
              rw [hr]; rfl
            · exact hok j q (by omega) hq
          clear e2
          have hrl : (rws ((wsS l).take i)).length ≤ 1048576 := by simp [rws]; omega
          repeat (first | refine awp_seq ?_ | refine then_n ?_ | refine then_r ?_ | refine then_x ?_ | refine block_n ?_ | refine block_r ?_ | refine block_x ?_ | refine u_y ?_ | refine loop_r ?_ | refine loop_x ?_ | refine awp_region ?_ | refine awpL_nil ?_ | refine awpQL_nil ?_ | refine awp_block ?_ | refine awp_skip ?_ | refine awp_exit ?_ | refine awp_label ?_ | refine u_dT ?_ | refine u_d ?_ | refine u_l ?_ | refine u_o ?_ | refine u_q ?_ | refine u_lr ?_ | refine u_qr ?_ | refine u_ls ?_ | refine u_qs ?_ | refine u_t ?_ | refine u_f ?_ | refine v_s ?_ | refine v_o ?_ | refine v_on ?_ | refine v_og ?_ | refine v_q ?_ | refine v_sr ?_ | refine v_k ?_ | refine m_nil ?_)
          refine hcl [] [(30000, 500)] e3 ?_
          repeat (first | refine awp_seq ?_ | refine then_n ?_ | refine then_r ?_ | refine then_x ?_ | refine block_n ?_ | refine block_r ?_ | refine block_x ?_ | refine u_y ?_ | refine loop_r ?_ | refine loop_x ?_ | refine awp_region ?_ | refine awpL_nil ?_ | refine awpQL_nil ?_ | refine awp_block ?_ | refine awp_skip ?_ | refine awp_exit ?_ | refine awp_label ?_ | refine u_dT ?_ | refine u_d ?_ | refine u_l ?_ | refine u_o ?_ | refine u_q ?_ | refine u_lr ?_ | refine u_qr ?_ | refine u_ls ?_ | refine u_qs ?_ | refine u_t ?_ | refine u_f ?_ | refine v_s ?_ | refine v_o ?_ | refine v_on ?_ | refine v_og ?_ | refine v_q ?_ | refine v_sr ?_ | refine v_k ?_ | refine m_nil ?_)
          refine loop_n (i + 1) ⟨hlt, hok'⟩ ?_ ?_ (by omega)
          · ((repeat (first | exact trivial | (refine ⟨?_, ?_⟩; (focus (first | rfl | (simp [lk, argsS, args0]; done) | (simp [lk, argsS, args0]; omega)))))))
          · have e9 : rws ((wsS l).take (i + 1)) = rws ((wsS l).take i) ++ [(rwd p).map (.int .i64)] := by rw [htk]; simp [rws]
            rw [e9]
            rfl
      · have hie : i = (iniL l).length := by omega
        subst hie
        have hdc : decide ((((iniL l).length : Nat) : Int) < (((((lns l).map D.str).take ((((lns l).map D.str).length : Nat) - 1 : Int).toNat).length : Nat) : Int)) = false := decide_eq_false (by omega)
        have hall : ((iniL l).all fun p => (rwS p).isSome) = true := List.all_eq_true.2 fun p hp => by
          obtain ⟨j, hj, e⟩ := List.getElem_of_mem hp
          exact hok j p hj (by rw [List.getElem?_eq_getElem hj, e])
        have hwt : (wsS l).take (iniL l).length = wsS l := by rw [← hwm, List.take_length]
        rw [hwt]
        have hw4 : ∀ w ∈ wsS l, w.length ≤ 1048576 := fun w hw => by
          obtain ⟨p, hp, rfl⟩ := List.mem_map.1 hw
          obtain ⟨v, hv⟩ := Option.isSome_iff_exists.1 (List.all_eq_true.1 hall p hp)
          have h5 := rwS_len hv
          rw [rwS_eq hv] at h5
          omega
        have e4 : AC Tryd.prog 14 [.lst ((rws (wsS l)).map D.lst)] (.str (stx (wsS l))) := by
          rw [rws_dat]
          exact impl_SuiteText (by omega) hw4
        have key := stx_text (l := l) (List.all_eq_true.1 hall)
        by_cases hz : stx (wsS l) = l
        · have hk := key.1 hz
          have hrs : rsOk l = true := by
            simp only [rsOk, Bool.and_eq_true, decide_eq_true_eq]
            exact ⟨⟨⟨by omega, hall⟩, hk.1⟩, hk.2⟩
          rw [hrs, if_pos rfl, if_pos rfl]
          rw [hz] at e4
          generalize wsS l = W at *
          repeat (first | refine awp_seq ?_ | refine then_n ?_ | refine then_r ?_ | refine then_x ?_ | refine block_n ?_ | refine block_r ?_ | refine block_x ?_ | refine u_y ?_ | refine loop_r ?_ | refine loop_x ?_ | refine awp_region ?_ | refine awpL_nil ?_ | refine awpQL_nil ?_ | refine awp_block ?_ | refine awp_skip ?_ | refine awp_exit ?_ | refine awp_label ?_ | refine u_dT ?_ | refine u_d ?_ | ((first | apply c_l | apply c_q | apply c_lr | apply c_qr); (iterate 2 exact rfl); (focus (first | exact e4)); (iterate 2 exact rfl)) | (apply v_c; (iterate 4 exact rfl); (focus (first | exact e4)); (iterate 2 exact rfl)) | refine u_l ?_ | refine u_o ?_ | refine u_q ?_ | refine u_lr ?_ | refine u_qr ?_ | refine u_ls ?_ | refine u_qs ?_ | refine u_t ?_ | refine u_f ?_ | refine v_s ?_ | refine v_o ?_ | refine v_on ?_ | refine v_og ?_ | refine v_q ?_ | refine v_sr ?_ | refine v_k ?_ | refine m_nil ?_)
          (refine awp_ret ?_; (repeat (first | refine then_r ?_ | refine block_r ?_ | refine loop_r ?_)); refine u_rH [(13, 30000)] ?_ ?_)
          · rfl
          · rfl
        · have hrs : rsOk l = false := by
            refine Bool.eq_false_iff.2 fun h => hz (key.2 ?_)
            simp only [rsOk, Bool.and_eq_true, decide_eq_true_eq] at h
            exact ⟨h.1.2, h.2⟩
          rw [hrs]
          have hdz : decide (stx (wsS l) = l) = false := decide_eq_false hz
          generalize stx (wsS l) = T at *
          generalize wsS l = W at *
          repeat (first | refine awp_seq ?_ | refine then_n ?_ | refine then_r ?_ | refine then_x ?_ | refine block_n ?_ | refine block_r ?_ | refine block_x ?_ | refine u_y ?_ | refine loop_r ?_ | refine loop_x ?_ | refine awp_region ?_ | refine awpL_nil ?_ | refine awpQL_nil ?_ | refine awp_block ?_ | refine awp_skip ?_ | refine awp_exit ?_ | refine awp_label ?_ | refine u_dT ?_ | refine u_d ?_ | ((first | apply c_l | apply c_q | apply c_lr | apply c_qr); (iterate 2 exact rfl); (focus (first | exact e4)); (iterate 2 exact rfl)) | (apply v_c; (iterate 4 exact rfl); (focus (first | exact e4)); (iterate 2 exact rfl)) | refine u_l ?_ | refine u_o ?_ | refine u_q ?_ | refine u_lr ?_ | refine u_qr ?_ | refine u_ls ?_ | refine u_qs ?_ | refine u_t ?_ | refine u_f ?_ | refine v_s ?_ | refine v_o ?_ | refine v_on ?_ | refine v_og ?_ | refine v_q ?_ | refine v_sr ?_ | refine v_k ?_ | refine m_nil ?_)
          refine awp_nilSlot 2 300 37 1 rfl rfl rfl ?_
          refine awp_toRows 300 2 1 rfl rfl rfl rfl ?_
          (refine awp_ret ?_; (repeat (first | refine then_r ?_ | refine block_r ?_ | refine loop_r ?_)); refine u_rH [(300, 30000)] ?_ ?_)
          · rfl
          · rfl
end Go.Proofs.YtfondjnjdcijaaaDoor
