/- Texts of suites: the reference, SuiteCost, and the laws of SuiteText and SuiteCost. No condition but bounds. -/
import Derived.Test.YtfondjnjdcijaaaDoorTy
import Derived.Test.YtfondjnjdcijaaaDoorTz
namespace Go.Proofs.YtfondjnjdcijaaaDoor
open Go
attribute [local irreducible] awp awpL awpQL awpQ awpM pWalk Qt AC thenQ blockQ loopQ OpTo
set_option linter.unusedVariables false
set_option linter.unusedSimpArgs false
set_option maxHeartbeats 2000000
attribute [local irreducible] HC

def sok (ws : List (List Int)) : Bool := decide ((∀ w ∈ ws, wtx w ≠ []) ∧ ws.length ≤ 400)
theorem stx_sok {ws : List (List Int)} : stx ws = if sok ws = true then ws.flatMap (fun w => wtx w ++ [10]) else [] := by
  unfold stx sok
  by_cases h : (∀ w ∈ ws, wtx w ≠ []) ∧ ws.length ≤ 400
  · rw [if_pos h, decide_eq_true h, if_pos rfl]
  · rw [if_neg h, decide_eq_false h, if_neg (by simp)]
theorem stx_nil {ws : List (List Int)} (h : ws ≠ []) : stx ws = [] ↔ sok ws = false := by
  rw [stx_sok]
  cases hs : sok ws with
  | false => simp
  | true =>
    obtain ⟨w, r, rfl⟩ := List.exists_cons_of_ne_nil h
    simp

theorem spec_l07Text {ws : List (List Int)} (hl : ws.length ≤ 1048576) (hw : ∀ w ∈ ws, w.length ≤ 1048576) : AC Tryd.prog 39 [rows ws] (.tup [.str (stx ws), .bool (sok ws)]) := by
  have hwm : (List.map ints ws).length = ws.length := by simp
  refine ac_intro tabIs _ Tryd.func39 rfl rfl Tryd.ntmps39 rfl rfl fun w0 ok0 => ?_
  repeat (first | refine awp_seq ?_ | refine then_n ?_ | refine then_r ?_ | refine then_x ?_ | refine block_n ?_ | refine block_r ?_ | refine block_x ?_ | refine u_y ?_ | refine loop_r ?_ | refine loop_x ?_ | refine awp_region ?_ | refine awpL_nil ?_ | refine awpQL_nil ?_ | refine awp_block ?_ | refine awp_skip ?_ | refine awp_exit ?_ | refine awp_label ?_ | refine u_dT ?_ | refine u_d ?_ | refine u_l ?_ | refine u_o ?_ | refine u_q ?_ | refine u_lr ?_ | refine u_qr ?_ | refine u_ls ?_ | refine u_qs ?_ | refine u_t ?_ | refine u_f ?_ | refine v_s ?_ | refine v_o ?_ | refine v_on ?_ | refine v_og ?_ | refine v_q ?_ | refine v_sr ?_ | refine v_k ?_ | refine m_nil ?_)
  refine awp_loop (fun i : Nat => i ≤ ws.length ∧ i ≤ 400 ∧ ∀ j x, j < i → ws[j]? = some x → wtx x ≠ []) (fun i => [(0, .d (rows ws)), (4, .d (.str ((ws.take i).flatMap fun w => wtx w ++ [10]))), (5, .d (.int .i64 i))]) (fun i => []) (fun i => ws.length - i) 0 ⟨by omega, by omega, fun j x h => by omega⟩ ?_ rfl ?_
  · ((repeat (first | exact trivial | (refine ⟨?_, ?_⟩; (focus (first | rfl | (simp [lk, argsS, args0]; done) | (simp [lk, argsS, args0]; omega)))))))
  · rintro i ⟨hi, hi4, hok⟩
    by_cases hlt : i < ws.length
    · have hx := el_row hlt
      have hx' : ws[i]? = some ws[i] := List.getElem?_eq_getElem hlt
      have hst : (ws.take (i + 1)).flatMap (fun w => wtx w ++ [10]) = ((ws.take i).flatMap fun w => wtx w ++ [10]) ++ (wtx ws[i] ++ [10]) := by
        rw [List.take_succ_eq_append_getElem hlt, List.flatMap_append]
        simp
      have hlen : ((ws.take i).flatMap fun w => wtx w ++ [10]).length ≤ 402 * i := stx_len (ws.take i) i (by simp; omega)
      have e1 := spec_WordText (hw _ (List.getElem_mem hlt))
      have hlw := wtx_len ws[i]
      by_cases hn : wtx ws[i] = []
      · have hs : sok ws = false := decide_eq_false fun h => h.1 _ (List.getElem_mem hlt) hn
        rw [stx_sok, hs]
        rw [hn] at e1
        repeat (first | refine awp_seq ?_ | refine then_n ?_ | refine then_r ?_ | refine then_x ?_ | refine block_n ?_ | refine block_r ?_ | refine block_x ?_ | refine u_y ?_ | refine loop_r ?_ | refine loop_x ?_ | refine awp_region ?_ | refine awpL_nil ?_ | refine awpQL_nil ?_ | refine awp_block ?_ | refine awp_skip ?_ | refine awp_exit ?_ | refine awp_label ?_ | refine u_dT ?_ | refine u_d ?_ | ((first | apply c_l | apply c_q | apply c_lr | apply c_qr); (iterate 2 exact rfl); (focus (first | exact e1)); (iterate 2 exact rfl)) | (apply v_c; (iterate 4 exact rfl); (focus (first | exact e1)); (iterate 2 exact rfl)) | refine u_l ?_ | refine u_o ?_ | refine u_q ?_ | refine u_lr ?_ | refine u_qr ?_ | refine u_ls ?_ | refine u_qs ?_ | refine u_t ?_ | refine u_f ?_ | refine v_s ?_ | refine v_o ?_ | refine v_on ?_ | refine v_og ?_ | refine v_q ?_ | refine v_sr ?_ | refine v_k ?_ | refine m_nil ?_)
        (refine awp_ret ?_; (repeat (first | refine then_r ?_ | refine block_r ?_ | refine loop_r ?_)); apply ret_ok (.inr rfl); (focus exact rfl))
        rfl
      · have hok' : ∀ j x, j < i + 1 → ws[j]? = some x → wtx x ≠ [] := fun j x hj h => by
          by_cases e : j = i
          · subst e
            rw [hx'] at h
            cases h
            exact hn
          · exact hok j x (by omega) h
        have hde : decide (wtx ws[i] = []) = false := decide_eq_false hn
        generalize wtx ws[i] = tw at *
        generalize (ws.take i).flatMap (fun w => wtx w ++ [10]) = bs at *
        by_cases h4 : i = 400
        · have hs : sok ws = false := decide_eq_false fun h => by omega
          rw [stx_sok, hs]
          repeat (first | refine awp_seq ?_ | refine then_n ?_ | refine then_r ?_ | refine then_x ?_ | refine block_n ?_ | refine block_r ?_ | refine block_x ?_ | refine u_y ?_ | refine loop_r ?_ | refine loop_x ?_ | refine awp_region ?_ | refine awpL_nil ?_ | refine awpQL_nil ?_ | refine awp_block ?_ | refine awp_skip ?_ | refine awp_exit ?_ | refine awp_label ?_ | refine u_dT ?_ | refine u_d ?_ | ((first | apply c_l | apply c_q | apply c_lr | apply c_qr); (iterate 2 exact rfl); (focus (first | exact e1)); (iterate 2 exact rfl)) | (apply v_c; (iterate 4 exact rfl); (focus (first | exact e1)); (iterate 2 exact rfl)) | refine u_l ?_ | refine u_o ?_ | refine u_q ?_ | refine u_lr ?_ | refine u_qr ?_ | refine u_ls ?_ | refine u_qs ?_ | refine u_t ?_ | refine u_f ?_ | refine v_s ?_ | refine v_o ?_ | refine v_on ?_ | refine v_og ?_ | refine v_q ?_ | refine v_sr ?_ | refine v_k ?_ | refine m_nil ?_ | refine u_glt ?_ | refine u_glf ?_ | refine u_gqt ?_ | refine u_gqf ?_)
          (refine awp_ret ?_; (repeat (first | refine then_r ?_ | refine block_r ?_ | refine loop_r ?_)); apply ret_ok (.inr rfl); (focus exact rfl))
          rfl
        · repeat (first | refine awp_seq ?_ | refine then_n ?_ | refine then_r ?_ | refine then_x ?_ | refine block_n ?_ | refine block_r ?_ | refine block_x ?_ | refine u_y ?_ | refine loop_r ?_ | refine loop_x ?_ | refine awp_region ?_ | refine awpL_nil ?_ | refine awpQL_nil ?_ | refine awp_block ?_ | refine awp_skip ?_ | refine awp_exit ?_ | refine awp_label ?_ | refine u_dT ?_ | refine u_d ?_ | ((first | apply c_l | apply c_q | apply c_lr | apply c_qr); (iterate 2 exact rfl); (focus (first | exact e1)); (iterate 2 exact rfl)) | (apply v_c; (iterate 4 exact rfl); (focus (first | exact e1)); (iterate 2 exact rfl)) | refine u_l ?_ | refine u_o ?_ | refine u_q ?_ | refine u_lr ?_ | refine u_qr ?_ | refine u_ls ?_ | refine u_qs ?_ | refine u_t ?_ | refine u_f ?_ | refine v_s ?_ | refine v_o ?_ | refine v_on ?_ | refine v_og ?_ | refine v_q ?_ | refine v_sr ?_ | refine v_k ?_ | refine m_nil ?_ | refine u_glt ?_ | refine u_glf ?_ | refine u_gqt ?_ | refine u_gqf ?_)
          refine loop_n (i + 1) ⟨by omega, by omega, hok'⟩ ?_ ?_ (by omega)
          · rw [hst]
            ((repeat (first | exact trivial | (refine ⟨?_, ?_⟩; (focus (first | rfl | (simp [lk, argsS, args0]; done) | (simp [lk, argsS, args0]; omega)))))))
          · rfl
    · have hie : i = ws.length := by omega
      subst hie
      rw [List.take_length]
      have hs : sok ws = true := decide_eq_true ⟨fun x hx => by
        obtain ⟨j, hj, e⟩ := List.getElem_of_mem hx
        exact hok j x hj (by rw [List.getElem?_eq_getElem hj, e]), hi4⟩
      rw [stx_sok, hs, if_pos rfl]
      repeat (first | refine awp_seq ?_ | refine then_n ?_ | refine then_r ?_ | refine then_x ?_ | refine block_n ?_ | refine block_r ?_ | refine block_x ?_ | refine u_y ?_ | refine loop_r ?_ | refine loop_x ?_ | refine awp_region ?_ | refine awpL_nil ?_ | refine awpQL_nil ?_ | refine awp_block ?_ | refine awp_skip ?_ | refine awp_exit ?_ | refine awp_label ?_ | refine u_dT ?_ | refine u_d ?_ | refine u_l ?_ | refine u_o ?_ | refine u_q ?_ | refine u_lr ?_ | refine u_qr ?_ | refine u_ls ?_ | refine u_qs ?_ | refine u_t ?_ | refine u_f ?_ | refine v_s ?_ | refine v_o ?_ | refine v_on ?_ | refine v_og ?_ | refine v_q ?_ | refine v_sr ?_ | refine v_k ?_ | refine m_nil ?_)
      (refine awp_ret ?_; (repeat (first | refine then_r ?_ | refine block_r ?_ | refine loop_r ?_)); apply ret_ok (.inr rfl); (focus exact rfl))
      rfl

theorem spec_SuiteText {ws : List (List Int)} (hl : ws.length ≤ 1048576) (hw : ∀ w ∈ ws, w.length ≤ 1048576) : AC Tryd.prog 16 [rows ws] (.str (stx ws)) := by
  have e1 := spec_l07Text hl hw
  refine ac_intro tabIs _ Tryd.func16 rfl rfl Tryd.ntmps16 rfl rfl fun w0 ok0 => ?_
  repeat (first | refine awp_seq ?_ | refine then_n ?_ | refine then_r ?_ | refine then_x ?_ | refine block_n ?_ | refine block_r ?_ | refine block_x ?_ | refine u_y ?_ | refine loop_r ?_ | refine loop_x ?_ | refine awp_region ?_ | refine awpL_nil ?_ | refine awpQL_nil ?_ | refine awp_block ?_ | refine awp_skip ?_ | refine awp_exit ?_ | refine awp_label ?_ | refine u_dT ?_ | refine u_d ?_ | ((first | apply c_l | apply c_q | apply c_lr | apply c_qr); (iterate 2 exact rfl); (focus (first | exact e1)); (iterate 2 exact rfl)) | (apply v_c; (iterate 4 exact rfl); (focus (first | exact e1)); (iterate 2 exact rfl)) | refine u_l ?_ | refine u_o ?_ | refine u_q ?_ | refine u_lr ?_ | refine u_qr ?_ | refine u_ls ?_ | refine u_qs ?_ | refine u_t ?_ | refine u_f ?_ | refine v_s ?_ | refine v_o ?_ | refine v_on ?_ | refine v_og ?_ | refine v_q ?_ | refine v_sr ?_ | refine v_k ?_ | refine m_nil ?_)
  (refine awp_ret ?_; (repeat (first | refine then_r ?_ | refine block_r ?_ | refine loop_r ?_)); apply ret_ok (.inr rfl); (focus exact rfl))
  rfl
/-! ### SuiteCost -/
def lsum (ws : List (List Int)) : Int := (ws.map fun w => (w.length : Int)).sum
theorem lsum_take {ws : List (List Int)} {i : Nat} (h : i < ws.length) : lsum (ws.take (i + 1)) = lsum (ws.take i) + ws[i].length := by
  rw [lsum, List.take_succ_eq_append_getElem h, List.map_append, List.sum_append]
  simp [lsum]
theorem lsum_le {ws : List (List Int)} (hw : ∀ w ∈ ws, w.length ≤ 1048576) : 0 ≤ lsum ws ∧ lsum ws ≤ 1048576 * ws.length := by
  induction ws with
  | nil => simp [lsum]
  | cons w ws ih =>
    have h1 := ih fun x hx => hw x (by simp [hx])
    have h2 := hw w (by simp)
    simp only [lsum, List.map_cons, List.sum_cons, List.length_cons] at *
    omega
def cost (ws : List (List Int)) : Int := if sok ws = true then ws.length + lsum ws else 0
def costE (ws : List (List Int)) : Int := if sok ws = true then 0 else 2

theorem impl_SuiteCost {ws : List (List Int)} (hl : ws.length ≤ 1048576) (hw : ∀ w ∈ ws, w.length ≤ 1048576) : AC Tryd.prog 15 [rows ws] (.tup [.int .i64 (cost ws), .int .i64 (costE ws)]) := by
  have hwm : (List.map ints ws).length = ws.length := by simp
  have e1 := impl_SuiteText hl hw
  have e2 := impl_size2 (nss := ws)
  unfold cost costE
  by_cases hb : sok ws = false
  · have hne : ws ≠ [] := fun e => by
      subst e
      simp [sok] at hb
    have hl0 : 0 < ws.length := List.length_pos_iff.2 hne
    rw [(stx_nil hne).2 hb] at e1
    rw [hb]
    refine ac_intro tabIs _ Tryd.func15 rfl rfl Tryd.ntmps15 rfl rfl fun w0 ok0 => ?_
    repeat (first | refine awp_seq ?_ | refine then_n ?_ | refine then_r ?_ | refine then_x ?_ | refine block_n ?_ | refine block_r ?_ | refine block_x ?_ | refine u_y ?_ | refine loop_r ?_ | refine loop_x ?_ | refine awp_region ?_ | refine awpL_nil ?_ | refine awpQL_nil ?_ | refine awp_block ?_ | refine awp_skip ?_ | refine awp_exit ?_ | refine awp_label ?_ | refine u_dT ?_ | refine u_d ?_ | ((first | apply c_l | apply c_q | apply c_lr | apply c_qr); (iterate 2 exact rfl); (focus (first | exact e1)); (iterate 2 exact rfl)) | (apply v_c; (iterate 4 exact rfl); (focus (first | exact e1)); (iterate 2 exact rfl)) | refine u_l ?_ | refine u_o ?_ | refine u_q ?_ | refine u_lr ?_ | refine u_qr ?_ | refine u_ls ?_ | refine u_qs ?_ | refine u_t ?_ | refine u_f ?_ | refine v_s ?_ | refine v_o ?_ | refine v_on ?_ | refine v_og ?_ | refine v_q ?_ | refine v_sr ?_ | refine v_k ?_ | refine m_nil ?_ | refine u_glt ?_ | refine u_glf ?_ | refine u_gqt ?_ | refine u_gqf ?_)
    (refine awp_ret ?_; (repeat (first | refine then_r ?_ | refine block_r ?_ | refine loop_r ?_)); apply ret_ok (.inr rfl); (focus exact rfl))
    rfl
  · have hs : sok ws = true := by simpa using hb
    have hd : ws ≠ [] → decide (stx ws = []) = false := fun hne => decide_eq_false fun e => by
      rw [(stx_nil hne).1 e] at hs
      cases hs
    rw [hs, if_pos rfl, if_pos rfl]
    generalize stx ws = tx at *
    have key : ∀ b : Bool, ((0 < ws.length ∧ decide (tx = []) = false) ∨ ws = []) → AC Tryd.prog 15 [rows ws] (.tup [.int .i64 (ws.length + lsum ws), .int .i64 0]) := fun b hc => by
      rcases hc with ⟨hl0, hdd⟩ | he
      · refine ac_intro tabIs _ Tryd.func15 rfl rfl Tryd.ntmps15 rfl rfl fun w0 ok0 => ?_
        repeat (first | refine awp_seq ?_ | refine then_n ?_ | refine then_r ?_ | refine then_x ?_ | refine block_n ?_ | refine block_r ?_ | refine block_x ?_ | refine u_y ?_ | refine loop_r ?_ | refine loop_x ?_ | refine awp_region ?_ | refine awpL_nil ?_ | refine awpQL_nil ?_ | refine awp_block ?_ | refine awp_skip ?_ | refine awp_exit ?_ | refine awp_label ?_ | refine u_dT ?_ | refine u_d ?_ | ((first | apply c_l | apply c_q | apply c_lr | apply c_qr); (iterate 2 exact rfl); (focus (first | exact e1 | exact e2)); (iterate 2 exact rfl)) | (apply v_c; (iterate 4 exact rfl); (focus (first | exact e1 | exact e2)); (iterate 2 exact rfl)) | refine u_l ?_ | refine u_o ?_ | refine u_q ?_ | refine u_lr ?_ | refine u_qr ?_ | refine u_ls ?_ | refine u_qs ?_ | refine u_t ?_ | refine u_f ?_ | refine v_s ?_ | refine v_o ?_ | refine v_on ?_ | refine v_og ?_ | refine v_q ?_ | refine v_sr ?_ | refine v_k ?_ | refine m_nil ?_ | refine u_glt ?_ | refine u_glf ?_ | refine u_gqt ?_ | refine u_gqf ?_)
        refine awp_loop (fun i : Nat => i ≤ ws.length) (fun i => [(4, .d (.int .i64 (ws.length + lsum (ws.take i)))), (17, .d (rows ws)), (18, .d (.int .i64 (List.map ints ws).length)), (19, .d (.int .i64 i))]) (fun i => []) (fun i => ws.length - i) 0 (by omega) ?_ rfl ?_
        · ((repeat (first | exact trivial | (refine ⟨?_, ?_⟩; (focus (first | rfl | (simp [lk, argsS, args0]; done) | (simp [lk, argsS, args0]; omega)))))))
          all_goals simp [lsum]
        · intro i hi
          by_cases hlt : i < ws.length
          · have hx := el_row hlt
            have hst := lsum_take hlt
            have hle := lsum_le (ws := ws.take i) (fun w h => hw w (List.mem_of_mem_take h))
            have hwl := hw _ (List.getElem_mem hlt)
            rw [List.length_take] at hle
            have e3 := impl_size1 (ns := ws[i])
            generalize lsum (ws.take i) = t at *
            generalize ws[i] = u at *
            repeat (first | refine awp_seq ?_ | refine then_n ?_ | refine then_r ?_ | refine then_x ?_ | refine block_n ?_ | refine block_r ?_ | refine block_x ?_ | refine u_y ?_ | refine loop_r ?_ | refine loop_x ?_ | refine awp_region ?_ | refine awpL_nil ?_ | refine awpQL_nil ?_ | refine awp_block ?_ | refine awp_skip ?_ | refine awp_exit ?_ | refine awp_label ?_ | refine u_dT ?_ | refine u_d ?_ | ((first | apply c_l | apply c_q | apply c_lr | apply c_qr); (iterate 2 exact rfl); (focus (first | exact e3)); (iterate 2 exact rfl)) | (apply v_c; (iterate 4 exact rfl); (focus (first | exact e3)); (iterate 2 exact rfl)) | refine u_l ?_ | refine u_o ?_ | refine u_q ?_ | refine u_lr ?_ | refine u_qr ?_ | refine u_ls ?_ | refine u_qs ?_ | refine u_t ?_ | refine u_f ?_ | refine v_s ?_ | refine v_o ?_ | refine v_on ?_ | refine v_og ?_ | refine v_q ?_ | refine v_sr ?_ | refine v_k ?_ | refine m_nil ?_)
            refine loop_n (i + 1) (by omega) ?_ rfl (by omega)
            rw [hst]
            ((repeat (first | exact trivial | (refine ⟨?_, ?_⟩; (focus (first | rfl | (simp [lk, argsS, args0]; done) | (simp [lk, argsS, args0]; omega)))))))
            all_goals (simp; try omega)
          · have hie : i = ws.length := by omega
            subst hie
            rw [List.take_length]
            repeat (first | refine awp_seq ?_ | refine then_n ?_ | refine then_r ?_ | refine then_x ?_ | refine block_n ?_ | refine block_r ?_ | refine block_x ?_ | refine u_y ?_ | refine loop_r ?_ | refine loop_x ?_ | refine awp_region ?_ | refine awpL_nil ?_ | refine awpQL_nil ?_ | refine awp_block ?_ | refine awp_skip ?_ | refine awp_exit ?_ | refine awp_label ?_ | refine u_dT ?_ | refine u_d ?_ | refine u_l ?_ | refine u_o ?_ | refine u_q ?_ | refine u_lr ?_ | refine u_qr ?_ | refine u_ls ?_ | refine u_qs ?_ | refine u_t ?_ | refine u_f ?_ | refine v_s ?_ | refine v_o ?_ | refine v_on ?_ | refine v_og ?_ | refine v_q ?_ | refine v_sr ?_ | refine v_k ?_ | refine m_nil ?_)
            (refine awp_ret ?_; (repeat (first | refine then_r ?_ | refine block_r ?_ | refine loop_r ?_)); apply ret_ok (.inr rfl); (focus exact rfl))
            rfl
      · subst he
        refine ac_intro tabIs _ Tryd.func15 rfl rfl Tryd.ntmps15 rfl rfl fun w0 ok0 => ?_
        repeat (first | refine awp_seq ?_ | refine then_n ?_ | refine then_r ?_ | refine then_x ?_ | refine block_n ?_ | refine block_r ?_ | refine block_x ?_ | refine u_y ?_ | refine loop_r ?_ | refine loop_x ?_ | refine awp_region ?_ | refine awpL_nil ?_ | refine awpQL_nil ?_ | refine awp_block ?_ | refine awp_skip ?_ | refine awp_exit ?_ | refine awp_label ?_ | refine u_dT ?_ | refine u_d ?_ | ((first | apply c_l | apply c_q | apply c_lr | apply c_qr); (iterate 2 exact rfl); (focus (first | exact e2)); (iterate 2 exact rfl)) | (apply v_c; (iterate 4 exact rfl); (focus (first | exact e2)); (iterate 2 exact rfl)) | refine u_l ?_ | refine u_o ?_ | refine u_q ?_ | refine u_lr ?_ | refine u_qr ?_ | refine u_ls ?_ | refine u_qs ?_ | refine u_t ?_ | refine u_f ?_ | refine v_s ?_ | refine v_o ?_ | refine v_on ?_ | refine v_og ?_ | refine v_q ?_ | refine v_sr ?_ | refine v_k ?_ | refine m_nil ?_ | refine u_glt ?_ | refine u_glf ?_ | refine u_gqt ?_ | refine u_gqf ?_)
        refine awp_loop (fun i : Nat => i = 0) (fun i => [(4, .d (.int .i64 0)), (17, .d (rows [])), (18, .d (.int .i64 0)), (19, .d (.int .i64 i))]) (fun i => []) (fun i => i) 0 rfl ?_ rfl ?_
        · ((repeat (first | exact trivial | (refine ⟨?_, ?_⟩; (focus (first | rfl | (simp [lk, argsS, args0]; done) | (simp [lk, argsS, args0]; omega)))))))
        · intro i hi
          subst hi
          repeat (first | refine awp_seq ?_ | refine then_n ?_ | refine then_r ?_ | refine then_x ?_ | refine block_n ?_ | refine block_r ?_ | refine block_x ?_ | refine u_y ?_ | refine loop_r ?_ | refine loop_x ?_ | refine awp_region ?_ | refine awpL_nil ?_ | refine awpQL_nil ?_ | refine awp_block ?_ | refine awp_skip ?_ | refine awp_exit ?_ | refine awp_label ?_ | refine u_dT ?_ | refine u_d ?_ | refine u_l ?_ | refine u_o ?_ | refine u_q ?_ | refine u_lr ?_ | refine u_qr ?_ | refine u_ls ?_ | refine u_qs ?_ | refine u_t ?_ | refine u_f ?_ | refine v_s ?_ | refine v_o ?_ | refine v_on ?_ | refine v_og ?_ | refine v_q ?_ | refine v_sr ?_ | refine v_k ?_ | refine m_nil ?_)
          (refine awp_ret ?_; (repeat (first | refine then_r ?_ | refine block_r ?_ | refine loop_r ?_)); apply ret_ok (.inr rfl); (focus exact rfl))
          rfl
    by_cases hn : ws = []
    · exact key true (.inr hn)
    · exact key true (.inl ⟨List.length_pos_iff.2 hn, hd hn⟩)

end Go.Proofs.YtfondjnjdcijaaaDoor
