/- The law of suites and their texts. No condition. -/
import Derived.Test.YtfondjnjdcijaaaDoorRz
import Derived.Test.YtfondjnjdcijaaaDoorKf
namespace Go.Proofs.YtfondjnjdcijaaaDoor
open Go
attribute [local irreducible] awp awpL awpQL awpQ awpM pWalk Qt AC thenQ blockQ loopQ OpTo
set_option linter.unusedVariables false
set_option linter.unusedSimpArgs false
set_option maxHeartbeats 2000000
attribute [local irreducible] HC

/-! ### Plain -/
theorem chB_ok {l : Int} (h : 0 ≤ l ∧ l < 3) : chB l ≠ 10 ∧ chk (chB l) = true ∧ chI (chB l) = l ∧ chB l ≠ 45 := by
  have : l = 0 ∨ l = 1 ∨ l = 2 := by omega
  rcases this with rfl | rfl | rfl <;> decide
theorem wok_of {w : List Int} (h1 : w.length ≤ 5) (h2 : ∀ l ∈ w, 0 ≤ l ∧ l < 3) : wOkT w = true := by
  unfold wOkT
  rw [Bool.and_eq_true, decide_eq_true_eq]
  refine ⟨by omega, List.all_eq_true.2 fun l hl => ?_⟩
  have := h2 l hl
  simp only [inB, Bool.and_eq_true, decide_eq_true_eq]
  omega
theorem wtx_of {w : List Int} (h1 : w.length ≤ 5) (h2 : ∀ l ∈ w, 0 ≤ l ∧ l < 3) : wtx w = if w = [] then [45] else w.map chB := by
  unfold wtx
  rw [if_pos (wok_of h1 h2)]
theorem rwS_wtxOf {w : List Int} (h1 : w.length ≤ 5) (h2 : ∀ l ∈ w, 0 ≤ l ∧ l < 3) : rwS (wtx w) = some w := by
  rw [wtx_of h1 h2]
  by_cases hn : w = []
  · subst hn
    decide
  · rw [if_neg hn]
    have h45 : w.map chB ≠ [45] := fun e => by
      cases w with
      | nil => exact hn rfl
      | cons l r =>
        simp only [List.map_cons, List.cons.injEq] at e
        exact (chB_ok (h2 l (by simp))).2.2.2 e.1
    unfold rwS
    rw [if_neg h45, if_pos ⟨List.all_eq_true.2 fun c hc => by
      obtain ⟨l, hl, rfl⟩ := List.mem_map.1 hc
      exact (chB_ok (h2 l hl)).2.1, by have := List.length_pos_iff.2 hn; rw [List.length_map]; omega, by simp; omega⟩]
    rw [List.map_map]
    congr 1
    conv => rhs; rw [← List.map_id w]
    exact List.map_congr_left fun l hl => (chB_ok (h2 l hl)).2.2.1
theorem wtx_no {w : List Int} (h1 : w.length ≤ 5) (h2 : ∀ l ∈ w, 0 ≤ l ∧ l < 3) : ∀ c ∈ wtx w, c ≠ 10 := by
  rw [wtx_of h1 h2]
  by_cases hn : w = []
  · subst hn; decide
  · rw [if_neg hn]
    intro c hc
    obtain ⟨l, hl, rfl⟩ := List.mem_map.1 hc
    exact (chB_ok (h2 l hl)).1
def empT (ws : List (List Int)) : Nat := (ws.filter fun w => decide (w = [])).length

structure Sm (ws : List (List Int)) : Prop where
  len : ws.length ≤ 5
  all : ∀ w ∈ ws, w.length ≤ 5 ∧ ∀ l ∈ w, 0 ≤ l ∧ l < 3
theorem sm_flat {ws : List (List Int)} (h : ∀ w ∈ ws, w.length ≤ 5 ∧ ∀ l ∈ w, 0 ≤ l ∧ l < 3) :
    lns (ws.flatMap fun w => wtx w ++ [10]) = ws.map wtx ++ [[]] ∧ ((ws.flatMap fun w => wtx w ++ [10]).length : Int) = ws.length + lsum ws + empT ws := by
  induction ws with
  | nil => exact ⟨rfl, rfl⟩
  | cons w ws ih =>
    obtain ⟨i1, i2⟩ := ih fun v hv => h v (by simp [hv])
    obtain ⟨w1, w2⟩ := h w (by simp)
    constructor
    · rw [List.flatMap_cons, List.append_assoc, List.singleton_append, lns_at (wtx_no w1 w2), i1]
      rfl
    · rw [List.flatMap_cons, List.length_append, List.length_append]
      have e1 : lsum (w :: ws) = w.length + lsum ws := by simp [lsum]
      rw [e1]
      by_cases hn : w = []
      · have e2 : empT (w :: ws) = empT ws + 1 := by simp [empT, hn]
        rw [e2, wtx_of w1 w2, if_pos hn, hn]
        simp only [List.length_cons, List.length_nil]
        omega
      · have e2 : empT (w :: ws) = empT ws := by simp [empT, hn]
        rw [e2, wtx_of w1 w2, if_neg hn]
        simp only [List.length_cons, List.length_nil, List.length_map]
        omega
theorem lsum_sm {ws : List (List Int)} (h : ∀ w ∈ ws, w.length ≤ 5) : 0 ≤ lsum ws ∧ lsum ws ≤ 5 * ws.length := by
  induction ws with
  | nil => simp [lsum]
  | cons w ws ih =>
    have h1 := ih fun x hx => h x (by simp [hx])
    have h2 := h w (by simp)
    simp only [lsum, List.map_cons, List.sum_cons, List.length_cons] at *
    omega
theorem empT_le (ws : List (List Int)) : empT ws ≤ ws.length := List.length_filter_le _ _
theorem empT_take {ws : List (List Int)} {i : Nat} (h : i < ws.length) : empT (ws.take (i + 1)) = empT (ws.take i) + if ws[i] = [] then 1 else 0 := by
  unfold empT
  rw [List.take_succ_eq_append_getElem h, List.filter_append, List.length_append]
  by_cases e : ws[i] = [] <;> simp [e]
theorem sm_rows {ws : List (List Int)} (h : Sm ws) : RowsOk ws := ⟨fun w hw => ⟨fun l hl => by
  have := (h.all w hw).2 l hl
  unfold I64
  omega, by have := (h.all w hw).1; omega⟩, by have := h.len; omega⟩
theorem sm_sok {ws : List (List Int)} (h : Sm ws) : sok ws = true := by
  refine decide_eq_true ⟨fun w hw => ?_, by have := h.len; omega⟩
  obtain ⟨w1, w2⟩ := h.all w hw
  intro e
  rw [wtx_nil, wok_of w1 w2] at e
  cases e
theorem sm_facts {ws : List (List Int)} (h : Sm ws) : stx ws = (ws.flatMap fun w => wtx w ++ [10]) ∧ rsW (stx ws) = ws ∧ rsC (stx ws) = 0 ∧ (stx ws).length ≤ 20000 ∧ ((stx ws).length : Int) = ws.length + lsum ws + empT ws := by
  have h1 : stx ws = (ws.flatMap fun w => wtx w ++ [10]) := by rw [stx_sok, sm_sok h, if_pos rfl]
  obtain ⟨i1, i2⟩ := sm_flat h.all
  have h2 := lsum_sm fun w hw => (h.all w hw).1
  have h3 := empT_le ws
  have h4 := h.len
  rw [← h1] at i1 i2
  have hl : (stx ws).length ≤ 20000 := by omega
  have hini : iniL (stx ws) = ws.map wtx := by unfold iniL; rw [i1]; simp
  have hlas : lasL (stx ws) = [] := by unfold lasL; simp [i1]
  have hall : ((iniL (stx ws)).all fun p => (rwS p).isSome) = true := by
    rw [hini]
    refine List.all_eq_true.2 fun p hp => ?_
    obtain ⟨w, hw, rfl⟩ := List.mem_map.1 hp
    obtain ⟨w1, w2⟩ := h.all w hw
    rw [rwS_wtxOf w1 w2]
    rfl
  have hok : rsOk (stx ws) = true := by
    simp only [rsOk, Bool.and_eq_true, decide_eq_true_eq]
    exact ⟨⟨⟨hl, hall⟩, by rw [hini]; simp; omega⟩, hlas⟩
  refine ⟨h1, ?_, ?_, hl, i2⟩
  · unfold rsW
    rw [hok, if_pos rfl]
    unfold wsS
    rw [hini, List.map_map]
    conv => rhs; rw [← List.map_id ws]
    refine List.map_congr_left fun w hw => ?_
    obtain ⟨w1, w2⟩ := h.all w hw
    exact (rwS_eq (rwS_wtxOf w1 w2)).symm
  · unfold rsC
    rw [if_neg (by omega), hok]
    rfl
theorem law_FnSuiteText {code more : List Int} (hb : BytesOk code) (hb2 : BytesOk more) : AC Tryd.prog 4 [u8s code, u8s more] (.bool true) := by
  have g1 := laws_f6big (code := code)
  have g2 := laws_f6big (code := more)
  by_cases c1 : (4096 : Int) < code.length
  · rw [decide_eq_true c1] at g1
    refine ac_intro tabIs _ Tryd.func4 rfl rfl Tryd.ntmps4 rfl rfl fun w0 ok0 => ?_
    repeat (first | refine awp_seq ?_ | refine then_n ?_ | refine then_r ?_ | refine then_x ?_ | refine block_n ?_ | refine block_r ?_ | refine block_x ?_ | refine u_y ?_ | refine loop_r ?_ | refine loop_x ?_ | refine awp_region ?_ | refine awpL_nil ?_ | refine awpQL_nil ?_ | refine awp_block ?_ | refine awp_skip ?_ | refine awp_exit ?_ | refine awp_label ?_ | refine u_dT ?_ | refine u_d ?_ | ((first | apply c_l | apply c_q | apply c_lr | apply c_qr); (iterate 2 exact rfl); (focus (first | exact g1)); (iterate 2 exact rfl)) | (apply v_c; (iterate 4 exact rfl); (focus (first | exact g1)); (iterate 2 exact rfl)) | refine u_l ?_ | refine u_o ?_ | refine u_q ?_ | refine u_lr ?_ | refine u_qr ?_ | refine u_ls ?_ | refine u_qs ?_ | refine u_t ?_ | refine u_f ?_ | refine v_s ?_ | refine v_o ?_ | refine v_on ?_ | refine v_og ?_ | refine v_q ?_ | refine v_sr ?_ | refine v_k ?_ | refine m_nil ?_)
    (refine awp_ret ?_; (repeat (first | refine then_r ?_ | refine block_r ?_ | refine loop_r ?_)); apply ret_ok (.inr rfl); (focus exact rfl))
    rfl
  rw [decide_eq_false c1] at g1
  by_cases c2 : (4096 : Int) < more.length
  · rw [decide_eq_true c2] at g2
    refine ac_intro tabIs _ Tryd.func4 rfl rfl Tryd.ntmps4 rfl rfl fun w0 ok0 => ?_
    repeat (first | refine awp_seq ?_ | refine then_n ?_ | refine then_r ?_ | refine then_x ?_ | refine block_n ?_ | refine block_r ?_ | refine block_x ?_ | refine u_y ?_ | refine loop_r ?_ | refine loop_x ?_ | refine awp_region ?_ | refine awpL_nil ?_ | refine awpQL_nil ?_ | refine awp_block ?_ | refine awp_skip ?_ | refine awp_exit ?_ | refine awp_label ?_ | refine u_dT ?_ | refine u_d ?_ | ((first | apply c_l | apply c_q | apply c_lr | apply c_qr); (iterate 2 exact rfl); (focus (first | exact g1 | exact g2)); (iterate 2 exact rfl)) | (apply v_c; (iterate 4 exact rfl); (focus (first | exact g1 | exact g2)); (iterate 2 exact rfl)) | refine u_l ?_ | refine u_o ?_ | refine u_q ?_ | refine u_lr ?_ | refine u_qr ?_ | refine u_ls ?_ | refine u_qs ?_ | refine u_t ?_ | refine u_f ?_ | refine v_s ?_ | refine v_o ?_ | refine v_on ?_ | refine v_og ?_ | refine v_q ?_ | refine v_sr ?_ | refine v_k ?_ | refine m_nil ?_)
    (refine awp_ret ?_; (repeat (first | refine then_r ?_ | refine block_r ?_ | refine loop_r ?_)); apply ret_ok (.inr rfl); (focus exact rfl))
    rfl
  rw [decide_eq_false c2] at g2
  have m := mv_pmM hb
  have p1 := spec_P6Machine hb
  generalize (pmM code).s = s at *
  generalize (pmM code).o = o at *
  generalize (pmM code).nx = nx at *
  generalize (pmM code).ou = ou at *
  have hn := m.n1
  have p6 := spec_P6Suite (code := more) (s := s) (o := o) (nx := nx) (ou := ou) hb2 (by omega)
  have su := su_psM (n := nx.length) hb2 (by omega)
  have sm : Sm (psM more nx.length) := ⟨psM_len hb2, fun w hw => by
    have h := psR_el hb2 (L := nx.length) (by omega) _ w hw
    exact ⟨h.1, fun l hl => by have := h.2 l hl; omega⟩⟩
  generalize psM more nx.length = ws at *
  obtain ⟨f1, f2, f3, f4, f5⟩ := sm_facts sm
  have hl5 := sm.len
  have hw4 : ∀ w ∈ ws, w.length ≤ 1048576 := fun w hw => by have := (sm.all w hw).1; omega
  have q1 := impl_SuiteText (ws := ws) (by omega) hw4
  have q2 := spec_SuiteText (ws := ws) (by omega) hw4
  have q3 : AC Tryd.prog 7 [.str (stx ws)] (.tup [rows ws, .int .i64 0]) := by
    have := ac_of_hc (xs := [.str (stx ws)]) (d := .tup [.lst ((rws (rsW (stx ws))).map D.lst), .int .i64 (rsC (stx ws))]) (impl_ReadSuite (by omega)) rfl
    rwa [f2, f3, rws_dat] at this
  have q4 := impl_SuiteCost (ws := ws) (by omega) hw4
  rw [show cost ws = ws.length + lsum ws by unfold cost; rw [sm_sok sm, if_pos rfl], show costE ws = 0 by unfold costE; rw [sm_sok sm, if_pos rfl]] at q4
  have rr := sm_rows sm
  have q5 := laws_f6rows (a := ws) (b := ws) rr rr
  rw [decide_eq_true rfl] at q5
  have q6 := impl_ValidSuite (s := s) (o := o) m.rnx m.rou rr
  rw [machOk_mv m, suiteOk_su su] at q6
  have hls := lsum_sm fun w hw => (sm.all w hw).1
  have het := empT_le ws
  generalize stx ws = T at *
  generalize hle : lsum ws = L at *
  have hwm : (List.map ints ws).length = ws.length := by simp
  have hfin : decide ((ws.length : Int) + L = (T.length : Int) - (empT ws : Nat)) = true := decide_eq_true (by omega)
  unfold mach at *
  refine ac_intro tabIs _ Tryd.func4 rfl rfl Tryd.ntmps4 rfl rfl fun w0 ok0 => ?_
  repeat (first | refine awp_seq ?_ | refine then_n ?_ | refine then_r ?_ | refine then_x ?_ | refine block_n ?_ | refine block_r ?_ | refine block_x ?_ | refine u_y ?_ | refine loop_r ?_ | refine loop_x ?_ | refine awp_region ?_ | refine awpL_nil ?_ | refine awpQL_nil ?_ | refine awp_block ?_ | refine awp_skip ?_ | refine awp_exit ?_ | refine awp_label ?_ | refine u_dT ?_ | refine u_d ?_ | ((first | apply c_l | apply c_q | apply c_lr | apply c_qr); (iterate 2 exact rfl); (focus (first | exact g1 | exact g2 | exact p1 | exact p6 | exact q1 | exact q3 | exact q4)); (iterate 2 exact rfl)) | (apply v_c; (iterate 4 exact rfl); (focus (first | exact g1 | exact g2 | exact p1 | exact p6 | exact q1 | exact q3 | exact q4)); (iterate 2 exact rfl)) | refine u_l ?_ | refine u_o ?_ | refine u_q ?_ | refine u_lr ?_ | refine u_qr ?_ | refine u_ls ?_ | refine u_qs ?_ | refine u_t ?_ | refine u_f ?_ | refine v_s ?_ | refine v_o ?_ | refine v_on ?_ | refine v_og ?_ | refine v_q ?_ | refine v_sr ?_ | refine v_k ?_ | refine m_nil ?_ | refine u_glt ?_ | refine u_glf ?_ | refine u_gqt ?_ | refine u_gqf ?_)
  refine awp_freezeB 5 rfl rfl rfl ?_
  refine awp_loop (fun i : Nat => i ≤ ws.length) (fun i => [(5, .d (.ptr (.agg [.int .i64 s, .int .i64 o, rows nx, rows ou]))), (6, .d (rows ws)), (7, .d (.str T)), (8, .d (rows ws)), (9, .d (.int .i64 0)), (10, .d (.int .i64 (ws.length + L))), (11, .d (.int .i64 0)), (12, .d (.int .i64 (empT (ws.take i)))), (13, .d (.int .i64 i))]) (fun i => []) (fun i => ws.length - i) 0 (by omega) ?_ rfl ?_
  · ((repeat (first | exact trivial | (refine ⟨?_, ?_⟩; (focus (first | rfl | (simp [lk, argsS, args0]; done) | (simp [lk, argsS, args0]; omega)))))))
  · intro i hi
    by_cases hlt : i < ws.length
    · have hx := el_row hlt
      have het2 := empT_le (ws.take i)
      rw [List.length_take] at het2
      have hst := empT_take hlt
      have hxl : (List.map (D.int .i64) ws[i]).length = ws[i].length := by simp
      by_cases hz : ws[i] = []
      · rw [if_pos hz] at hst
        have hdz : decide ((((List.map (D.int .i64) ws[i]).length : Nat) : Int) = 0) = true := by rw [hz]; rfl
        generalize empT (ws.take i) = A at *
        generalize ws[i] = w at *
        repeat (first | refine awp_seq ?_ | refine then_n ?_ | refine then_r ?_ | refine then_x ?_ | refine block_n ?_ | refine block_r ?_ | refine block_x ?_ | refine u_y ?_ | refine loop_r ?_ | refine loop_x ?_ | refine awp_region ?_ | refine awpL_nil ?_ | refine awpQL_nil ?_ | refine awp_block ?_ | refine awp_skip ?_ | refine awp_exit ?_ | refine awp_label ?_ | refine u_dT ?_ | refine u_d ?_ | refine u_l ?_ | refine u_o ?_ | refine u_q ?_ | refine u_lr ?_ | refine u_qr ?_ | refine u_ls ?_ | refine u_qs ?_ | refine u_t ?_ | refine u_f ?_ | refine v_s ?_ | refine v_o ?_ | refine v_on ?_ | refine v_og ?_ | refine v_q ?_ | refine v_sr ?_ | refine v_k ?_ | refine m_nil ?_)
        refine loop_n (i + 1) (by omega) ?_ rfl (by omega)
        rw [hst]
        ((repeat (first | exact trivial | (refine ⟨?_, ?_⟩; (focus (first | rfl | (simp [lk, argsS, args0]; done) | (simp [lk, argsS, args0]; omega)))))))
      · rw [if_neg hz] at hst
        have hdz : decide ((((List.map (D.int .i64) ws[i]).length : Nat) : Int) = 0) = false := decide_eq_false (by
          have := List.length_pos_iff.2 hz
          omega)
        generalize empT (ws.take i) = A at *
        generalize ws[i] = w at *
        repeat (first | refine awp_seq ?_ | refine then_n ?_ | refine then_r ?_ | refine then_x ?_ | refine block_n ?_ | refine block_r ?_ | refine block_x ?_ | refine u_y ?_ | refine loop_r ?_ | refine loop_x ?_ | refine awp_region ?_ | refine awpL_nil ?_ | refine awpQL_nil ?_ | refine awp_block ?_ | refine awp_skip ?_ | refine awp_exit ?_ | refine awp_label ?_ | refine u_dT ?_ | refine u_d ?_ | refine u_l ?_ | refine u_o ?_ | refine u_q ?_ | refine u_lr ?_ | refine u_qr ?_ | refine u_ls ?_ | refine u_qs ?_ | refine u_t ?_ | refine u_f ?_ | refine v_s ?_ | refine v_o ?_ | refine v_on ?_ | refine v_og ?_ | refine v_q ?_ | refine v_sr ?_ | refine v_k ?_ | refine m_nil ?_)
        refine loop_n (i + 1) (by omega) ?_ rfl (by omega)
        rw [hst]
        ((repeat (first | exact trivial | (refine ⟨?_, ?_⟩; (focus (first | rfl | (simp [lk, argsS, args0]; done) | (simp [lk, argsS, args0]; omega)))))))
    · have hie : i = ws.length := by omega
      subst hie
      rw [List.take_length]
      generalize empT ws = E at *
      repeat (first | refine awp_seq ?_ | refine then_n ?_ | refine then_r ?_ | refine then_x ?_ | refine block_n ?_ | refine block_r ?_ | refine block_x ?_ | refine u_y ?_ | refine loop_r ?_ | refine loop_x ?_ | refine awp_region ?_ | refine awpL_nil ?_ | refine awpQL_nil ?_ | refine awp_block ?_ | refine awp_skip ?_ | refine awp_exit ?_ | refine awp_label ?_ | refine u_dT ?_ | refine u_d ?_ | ((first | apply c_l | apply c_q | apply c_lr | apply c_qr); (iterate 2 exact rfl); (focus (first | exact q2 | exact q5 | exact q6)); (iterate 2 exact rfl)) | (apply v_c; (iterate 4 exact rfl); (focus (first | exact q2 | exact q5 | exact q6)); (iterate 2 exact rfl)) | refine u_l ?_ | refine u_o ?_ | refine u_q ?_ | refine u_lr ?_ | refine u_qr ?_ | refine u_ls ?_ | refine u_qs ?_ | refine u_t ?_ | refine u_f ?_ | refine v_s ?_ | refine v_o ?_ | refine v_on ?_ | refine v_og ?_ | refine v_q ?_ | refine v_sr ?_ | refine v_k ?_ | refine m_nil ?_ | refine u_glt ?_ | refine u_glf ?_ | refine u_gqt ?_ | refine u_gqf ?_)
      (refine awp_ret ?_; (repeat (first | refine then_r ?_ | refine block_r ?_ | refine loop_r ?_)); apply ret_ok (.inr rfl); (focus exact rfl))
      simp_all
end Go.Proofs.YtfondjnjdcijaaaDoor
