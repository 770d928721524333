/- Candidates, in the reference and in the program, and its law. No condition. -/
import Derived.Test.YthcaccakbmooeaaNg
namespace Go.Proofs.Ythcaccakbmooeaa
open Go
attribute [local irreducible] awp awpL awpQL awpQ awpM pWalk Qt AC thenQ blockQ loopQ OpTo
set_option linter.unusedVariables false
set_option linter.unusedSimpArgs false
set_option maxHeartbeats 2000000
attribute [local irreducible] HC

theorem spec_l00Same {a b : List Int} (h1 : a.length ≤ 9223372036854775807) (h2 : b.length ≤ 9223372036854775807) : AC Try.prog 97 [ints a, ints b] (.bool (decide (a = b))) := by
  have hla : (List.map (D.int IntKind.i64) a).length = a.length := by simp
  have hlb : (List.map (D.int IntKind.i64) b).length = b.length := by simp
  by_cases hl : a.length = b.length
  · refine ac_intro tabIs _ Try.func97 rfl rfl Try.ntmps97 rfl rfl fun w0 ok0 => ?_
    repeat (first | refine awp_seq ?_ | refine then_n ?_ | refine then_r ?_ | refine then_x ?_ | refine block_n ?_ | refine block_r ?_ | refine block_x ?_ | refine u_y ?_ | refine loop_r ?_ | refine loop_x ?_ | refine awp_region ?_ | refine awpL_nil ?_ | refine awpQL_nil ?_ | refine awp_block ?_ | refine awp_skip ?_ | refine awp_exit ?_ | refine awp_label ?_ | refine u_dT ?_ | refine u_d ?_ | refine u_l ?_ | refine u_o ?_ | refine u_q ?_ | refine u_lr ?_ | refine u_qr ?_ | refine u_ls ?_ | refine u_qs ?_ | refine u_t ?_ | refine u_f ?_ | refine v_s ?_ | refine v_o ?_ | refine v_on ?_ | refine v_og ?_ | refine v_q ?_ | refine v_sr ?_ | refine v_k ?_ | refine m_nil ?_)
    refine awp_loop (fun k : Nat => k ≤ a.length ∧ a.take k = b.take k) (fun k => [(0, .d (ints a)), (1, .d (ints b)), (5, .d (.int .i64 k))]) (fun _ => []) (fun k => a.length - k) 0 ⟨by omega, rfl⟩ ?_ rfl ?_
    · ((repeat (first | exact trivial | (refine ⟨?_, ?_⟩; (focus (first | rfl | (simp [lk, argsS, args0]; done) | (simp [lk, argsS, args0]; omega)))))))
    · rintro k ⟨hk, ht⟩
      by_cases hlt : k < a.length
      · have hlt2 : k < b.length := by omega
        have ea := el_int hlt
        have eb := el_int hlt2
        by_cases hc : a[k] = b[k]
        · have hs := eq_step hlt hlt2 ht hc
          repeat (first | refine awp_seq ?_ | refine then_n ?_ | refine then_r ?_ | refine then_x ?_ | refine block_n ?_ | refine block_r ?_ | refine block_x ?_ | refine u_y ?_ | refine loop_r ?_ | refine loop_x ?_ | refine awp_region ?_ | refine awpL_nil ?_ | refine awpQL_nil ?_ | refine awp_block ?_ | refine awp_skip ?_ | refine awp_exit ?_ | refine awp_label ?_ | refine u_dT ?_ | refine u_d ?_ | refine u_l ?_ | refine u_o ?_ | refine u_q ?_ | refine u_lr ?_ | refine u_qr ?_ | refine u_ls ?_ | refine u_qs ?_ | refine u_t ?_ | refine u_f ?_ | refine v_s ?_ | refine v_o ?_ | refine v_on ?_ | refine v_og ?_ | refine v_q ?_ | refine v_sr ?_ | refine v_k ?_ | refine m_nil ?_)
          refine loop_n (k + 1) ⟨by omega, hs⟩ ?_ rfl (by omega)
          ((repeat (first | exact trivial | (refine ⟨?_, ?_⟩; (focus (first | rfl | (simp [lk, argsS, args0]; done) | (simp [lk, argsS, args0]; omega)))))))
        · repeat (first | refine awp_seq ?_ | refine then_n ?_ | refine then_r ?_ | refine then_x ?_ | refine block_n ?_ | refine block_r ?_ | refine block_x ?_ | refine u_y ?_ | refine loop_r ?_ | refine loop_x ?_ | refine awp_region ?_ | refine awpL_nil ?_ | refine awpQL_nil ?_ | refine awp_block ?_ | refine awp_skip ?_ | refine awp_exit ?_ | refine awp_label ?_ | refine u_dT ?_ | refine u_d ?_ | refine u_l ?_ | refine u_o ?_ | refine u_q ?_ | refine u_lr ?_ | refine u_qr ?_ | refine u_ls ?_ | refine u_qs ?_ | refine u_t ?_ | refine u_f ?_ | refine v_s ?_ | refine v_o ?_ | refine v_on ?_ | refine v_og ?_ | refine v_q ?_ | refine v_sr ?_ | refine v_k ?_ | refine m_nil ?_)
          (refine awp_ret ?_; (repeat (first | refine then_r ?_ | refine block_r ?_ | refine loop_r ?_)); apply ret_ok (.inr rfl); (focus exact rfl))
          have : ¬ a = b := fun e => hc (by subst e; rfl)
          simp [this]
      · have hk' : k = a.length := by omega
        subst hk'
        rw [List.take_length, hl, List.take_length] at ht
        repeat (first | refine awp_seq ?_ | refine then_n ?_ | refine then_r ?_ | refine then_x ?_ | refine block_n ?_ | refine block_r ?_ | refine block_x ?_ | refine u_y ?_ | refine loop_r ?_ | refine loop_x ?_ | refine awp_region ?_ | refine awpL_nil ?_ | refine awpQL_nil ?_ | refine awp_block ?_ | refine awp_skip ?_ | refine awp_exit ?_ | refine awp_label ?_ | refine u_dT ?_ | refine u_d ?_ | refine u_l ?_ | refine u_o ?_ | refine u_q ?_ | refine u_lr ?_ | refine u_qr ?_ | refine u_ls ?_ | refine u_qs ?_ | refine u_t ?_ | refine u_f ?_ | refine v_s ?_ | refine v_o ?_ | refine v_on ?_ | refine v_og ?_ | refine v_q ?_ | refine v_sr ?_ | refine v_k ?_ | refine m_nil ?_)
        (refine awp_ret ?_; (repeat (first | refine then_r ?_ | refine block_r ?_ | refine loop_r ?_)); apply ret_ok (.inr rfl); (focus exact rfl))
        simp [ht]
  · refine ac_intro tabIs _ Try.func97 rfl rfl Try.ntmps97 rfl rfl fun w0 ok0 => ?_
    repeat (first | refine awp_seq ?_ | refine then_n ?_ | refine then_r ?_ | refine then_x ?_ | refine block_n ?_ | refine block_r ?_ | refine block_x ?_ | refine u_y ?_ | refine loop_r ?_ | refine loop_x ?_ | refine awp_region ?_ | refine awpL_nil ?_ | refine awpQL_nil ?_ | refine awp_block ?_ | refine awp_skip ?_ | refine awp_exit ?_ | refine awp_label ?_ | refine u_dT ?_ | refine u_d ?_ | refine u_l ?_ | refine u_o ?_ | refine u_q ?_ | refine u_lr ?_ | refine u_qr ?_ | refine u_ls ?_ | refine u_qs ?_ | refine u_t ?_ | refine u_f ?_ | refine v_s ?_ | refine v_o ?_ | refine v_on ?_ | refine v_og ?_ | refine v_q ?_ | refine v_sr ?_ | refine v_k ?_ | refine m_nil ?_)
    (refine awp_ret ?_; (repeat (first | refine then_r ?_ | refine block_r ?_ | refine loop_r ?_)); apply ret_ok (.inr rfl); (focus exact rfl))
    have : ¬ a = b := fun e => hl (by rw [e])
    simp [this]

theorem slices_EqualI {a b : List Int} (h1 : a.length ≤ 9223372036854775807) (h2 : b.length ≤ 9223372036854775807) : AC Try.prog 59 [ints a, ints b] (.bool (decide (a = b))) := by
  have hla : (List.map (D.int IntKind.i64) a).length = a.length := by simp
  have hlb : (List.map (D.int IntKind.i64) b).length = b.length := by simp
  by_cases hl : a.length = b.length
  · refine ac_intro tabIs _ Try.func59 rfl rfl Try.ntmps59 rfl rfl fun w0 ok0 => ?_
    repeat (first | refine awp_seq ?_ | refine then_n ?_ | refine then_r ?_ | refine then_x ?_ | refine block_n ?_ | refine block_r ?_ | refine block_x ?_ | refine u_y ?_ | refine loop_r ?_ | refine loop_x ?_ | refine awp_region ?_ | refine awpL_nil ?_ | refine awpQL_nil ?_ | refine awp_block ?_ | refine awp_skip ?_ | refine awp_exit ?_ | refine awp_label ?_ | refine u_dT ?_ | refine u_d ?_ | refine u_l ?_ | refine u_o ?_ | refine u_q ?_ | refine u_lr ?_ | refine u_qr ?_ | refine u_ls ?_ | refine u_qs ?_ | refine u_t ?_ | refine u_f ?_ | refine v_s ?_ | refine v_o ?_ | refine v_on ?_ | refine v_og ?_ | refine v_q ?_ | refine v_sr ?_ | refine v_k ?_ | refine m_nil ?_)
    refine awp_loop (fun k : Nat => k ≤ a.length ∧ a.take k = b.take k) (fun k => [(0, .d (ints a)), (1, .d (ints b)), (12, .d (.int .i64 (List.map (D.int IntKind.i64) a).length)), (13, .d (.int .i64 k))]) (fun _ => []) (fun k => a.length - k) 0 ⟨by omega, rfl⟩ ?_ rfl ?_
    · ((repeat (first | exact trivial | (refine ⟨?_, ?_⟩; (focus (first | rfl | (simp [lk, argsS, args0]; done) | (simp [lk, argsS, args0]; omega)))))))
    · rintro k ⟨hk, ht⟩
      by_cases hlt : k < a.length
      · have hlt2 : k < b.length := by omega
        have ea := el_int hlt
        have eb := el_int hlt2
        by_cases hc : a[k] = b[k]
        · have hs := eq_step hlt hlt2 ht hc
          repeat (first | refine awp_seq ?_ | refine then_n ?_ | refine then_r ?_ | refine then_x ?_ | refine block_n ?_ | refine block_r ?_ | refine block_x ?_ | refine u_y ?_ | refine loop_r ?_ | refine loop_x ?_ | refine awp_region ?_ | refine awpL_nil ?_ | refine awpQL_nil ?_ | refine awp_block ?_ | refine awp_skip ?_ | refine awp_exit ?_ | refine awp_label ?_ | refine u_dT ?_ | refine u_d ?_ | refine u_l ?_ | refine u_o ?_ | refine u_q ?_ | refine u_lr ?_ | refine u_qr ?_ | refine u_ls ?_ | refine u_qs ?_ | refine u_t ?_ | refine u_f ?_ | refine v_s ?_ | refine v_o ?_ | refine v_on ?_ | refine v_og ?_ | refine v_q ?_ | refine v_sr ?_ | refine v_k ?_ | refine m_nil ?_)
          refine loop_n (k + 1) ⟨by omega, hs⟩ ?_ rfl (by omega)
          ((repeat (first | exact trivial | (refine ⟨?_, ?_⟩; (focus (first | rfl | (simp [lk, argsS, args0]; done) | (simp [lk, argsS, args0]; omega)))))))
        · repeat (first | refine awp_seq ?_ | refine then_n ?_ | refine then_r ?_ | refine then_x ?_ | refine block_n ?_ | refine block_r ?_ | refine block_x ?_ | refine u_y ?_ | refine loop_r ?_ | refine loop_x ?_ | refine awp_region ?_ | refine awpL_nil ?_ | refine awpQL_nil ?_ | refine awp_block ?_ | refine awp_skip ?_ | refine awp_exit ?_ | refine awp_label ?_ | refine u_dT ?_ | refine u_d ?_ | refine u_l ?_ | refine u_o ?_ | refine u_q ?_ | refine u_lr ?_ | refine u_qr ?_ | refine u_ls ?_ | refine u_qs ?_ | refine u_t ?_ | refine u_f ?_ | refine v_s ?_ | refine v_o ?_ | refine v_on ?_ | refine v_og ?_ | refine v_q ?_ | refine v_sr ?_ | refine v_k ?_ | refine m_nil ?_)
          (refine awp_ret ?_; (repeat (first | refine then_r ?_ | refine block_r ?_ | refine loop_r ?_)); apply ret_ok (.inr rfl); (focus exact rfl))
          have : ¬ a = b := fun e => hc (by subst e; rfl)
          simp [this]
      · have hk' : k = a.length := by omega
        subst hk'
        rw [List.take_length, hl, List.take_length] at ht
        repeat (first | refine awp_seq ?_ | refine then_n ?_ | refine then_r ?_ | refine then_x ?_ | refine block_n ?_ | refine block_r ?_ | refine block_x ?_ | refine u_y ?_ | refine loop_r ?_ | refine loop_x ?_ | refine awp_region ?_ | refine awpL_nil ?_ | refine awpQL_nil ?_ | refine awp_block ?_ | refine awp_skip ?_ | refine awp_exit ?_ | refine awp_label ?_ | refine u_dT ?_ | refine u_d ?_ | refine u_l ?_ | refine u_o ?_ | refine u_q ?_ | refine u_lr ?_ | refine u_qr ?_ | refine u_ls ?_ | refine u_qs ?_ | refine u_t ?_ | refine u_f ?_ | refine v_s ?_ | refine v_o ?_ | refine v_on ?_ | refine v_og ?_ | refine v_q ?_ | refine v_sr ?_ | refine v_k ?_ | refine m_nil ?_)
        (refine awp_ret ?_; (repeat (first | refine then_r ?_ | refine block_r ?_ | refine loop_r ?_)); apply ret_ok (.inr rfl); (focus exact rfl))
        simp [ht]
  · refine ac_intro tabIs _ Try.func59 rfl rfl Try.ntmps59 rfl rfl fun w0 ok0 => ?_
    repeat (first | refine awp_seq ?_ | refine then_n ?_ | refine then_r ?_ | refine then_x ?_ | refine block_n ?_ | refine block_r ?_ | refine block_x ?_ | refine u_y ?_ | refine loop_r ?_ | refine loop_x ?_ | refine awp_region ?_ | refine awpL_nil ?_ | refine awpQL_nil ?_ | refine awp_block ?_ | refine awp_skip ?_ | refine awp_exit ?_ | refine awp_label ?_ | refine u_dT ?_ | refine u_d ?_ | refine u_l ?_ | refine u_o ?_ | refine u_q ?_ | refine u_lr ?_ | refine u_qr ?_ | refine u_ls ?_ | refine u_qs ?_ | refine u_t ?_ | refine u_f ?_ | refine v_s ?_ | refine v_o ?_ | refine v_on ?_ | refine v_og ?_ | refine v_q ?_ | refine v_sr ?_ | refine v_k ?_ | refine m_nil ?_)
    (refine awp_ret ?_; (repeat (first | refine then_r ?_ | refine block_r ?_ | refine loop_r ?_)); apply ret_ok (.inr rfl); (focus exact rfl))
    have : ¬ a = b := fun e => hl (by rw [e])
    simp [this]

theorem impl_outputs {s o q0 : Int} {nx ou : List (List Int)} {w : List Int} (m : MV s o nx ou) (hq0 : 0 ≤ q0 ∧ q0 < s) (hwl : w.length ≤ 400) (hwa : ∀ l ∈ w, 0 ≤ l ∧ l < nx.length) :
    AC Try.prog 58 [mach s o nx ou, .int .i64 q0, ints w] (.tup [ints (runO nx ou q0 w), .int .i64 (runS nx q0 w)]) := by
  have hle2 : (List.map (D.int IntKind.i64) w).length = w.length := by simp
  unfold mach
  refine ac_intro tabIs _ Try.func58 rfl rfl Try.ntmps58 rfl rfl fun w0 ok0 => ?_
  repeat (first | refine v_w (t := 11) ?_ | refine awp_seq ?_ | refine then_n ?_ | refine then_r ?_ | refine then_x ?_ | refine block_n ?_ | refine block_r ?_ | refine block_x ?_ | refine u_y ?_ | refine loop_r ?_ | refine loop_x ?_ | refine awp_region ?_ | refine awpL_nil ?_ | refine awpQL_nil ?_ | refine awp_block ?_ | refine awp_skip ?_ | refine awp_exit ?_ | refine awp_label ?_ | refine u_dT ?_ | refine u_d ?_ | refine u_w (t := 11) ?_ | refine u_l ?_ | refine u_o ?_ | refine u_q ?_ | refine u_lr ?_ | refine u_qr ?_ | refine u_ls ?_ | refine u_qs ?_ | refine u_t ?_ | refine u_f ?_ | refine v_s ?_ | refine v_o ?_ | refine v_on ?_ | refine v_og ?_ | refine v_q ?_ | refine v_sr ?_ | refine v_k ?_ | refine m_nil ?_)
  refine awp_loop (fun p : Nat × Int × List Int => p.1 ≤ w.length ∧ (0 ≤ p.2.1 ∧ p.2.1 < s) ∧ p.2.2.length = p.1 ∧ p.2.2 ++ runO nx ou p.2.1 (w.drop p.1) = runO nx ou q0 w ∧ runS nx p.2.1 (w.drop p.1) = runS nx q0 w)
    (fun p => [(1, .d (.int .i64 p.2.1)), (3, .d (.ptr (.agg [.int .i64 s, .int .i64 o, rows nx, rows ou]))), (8, .own 11), (12, .d (ints w)), (13, .d (.int .i64 (List.map (D.int IntKind.i64) w).length)), (14, .d (.int .i64 p.1))]) (fun p => [(11, .arr 2 1 (p.2.2.map (.int .i64)))]) (fun p => w.length - p.1) (0, q0, []) ⟨by simp, hq0, rfl, rfl, rfl⟩ ?_ rfl ?_
  · ((repeat (first | exact trivial | (refine ⟨?_, ?_⟩; (focus (first | rfl | (simp [lk, argsS, args0]; done) | (simp [lk, argsS, args0]; omega)))))))
  · rintro ⟨k, a, acc⟩ ⟨hk, ha, hac, hg, hs⟩
    dsimp only at hk ha hac hg hs
    by_cases hlt2 : k < w.length
    · have hy := el_int hlt2
      have hl := hwa _ (List.getElem_mem hlt2)
      have hlo : 0 ≤ w[k] ∧ w[k] < ou.length := by have := m.eq; omega
      have r1 := el_row2 hl
      have r3 := el_row2 hlo
      have l1 := tbl_row m.nx hl
      have l3 := tbl_row m.ou hlo
      have q1 : (List.map (D.int .i64) (row nx w[k]))[a.toNat]? = some (.int .i64 (at2 nx w[k] a)) := el_int2 (ns := row nx w[k]) (q := a) (by omega)
      have q3 : (List.map (D.int .i64) (row ou w[k]))[a.toNat]? = some (.int .i64 (at2 ou w[k] a)) := el_int2 (ns := row ou w[k]) (q := a) (by omega)
      have p1 := tbl_at m.nx hl ha
      have hlen : (List.map (D.int .i64) acc).length = k := by simp [hac]
      rw [List.drop_eq_getElem_cons hlt2] at hg hs
      simp only [runO] at hg
      simp only [runS] at hs
      repeat (first | refine awp_seq ?_ | refine then_n ?_ | refine then_r ?_ | refine then_x ?_ | refine block_n ?_ | refine block_r ?_ | refine block_x ?_ | refine u_y ?_ | refine loop_r ?_ | refine loop_x ?_ | refine awp_region ?_ | refine awpL_nil ?_ | refine awpQL_nil ?_ | refine awp_block ?_ | refine awp_skip ?_ | refine awp_exit ?_ | refine awp_label ?_ | refine u_dT ?_ | refine u_d ?_ | refine u_l ?_ | refine u_o ?_ | refine u_q ?_ | refine u_lr ?_ | refine u_qr ?_ | refine u_ls ?_ | refine u_qs ?_ | refine u_t ?_ | refine u_f ?_ | refine v_s ?_ | refine v_o ?_ | refine v_on ?_ | refine v_og ?_ | refine v_q ?_ | refine v_sr ?_ | refine v_k ?_ | refine m_nil ?_)
      refine loop_n (k + 1, at2 nx w[k] a, acc ++ [at2 ou w[k] a]) ⟨by omega, p1, by simp [hac], by simpa using hg, hs⟩ ?_ (by simp [killH, keepH, memB]) (by dsimp only; omega)
      ((repeat (first | exact trivial | (refine ⟨?_, ?_⟩; (focus (first | rfl | (simp [lk, argsS, args0]; done) | (simp [lk, argsS, args0]; omega)))))))
    · have : k = w.length := by omega
      subst this
      simp only [List.drop_length, runO, runS, List.append_nil] at hg hs
      subst hg hs
      repeat (first | refine awp_seq ?_ | refine then_n ?_ | refine then_r ?_ | refine then_x ?_ | refine block_n ?_ | refine block_r ?_ | refine block_x ?_ | refine u_y ?_ | refine loop_r ?_ | refine loop_x ?_ | refine awp_region ?_ | refine awpL_nil ?_ | refine awpQL_nil ?_ | refine awp_block ?_ | refine awp_skip ?_ | refine awp_exit ?_ | refine awp_label ?_ | refine u_dT ?_ | refine u_d ?_ | refine u_l ?_ | refine u_o ?_ | refine u_q ?_ | refine u_lr ?_ | refine u_qr ?_ | refine u_ls ?_ | refine u_qs ?_ | refine u_t ?_ | refine u_f ?_ | refine v_s ?_ | refine v_o ?_ | refine v_on ?_ | refine v_og ?_ | refine v_q ?_ | refine v_sr ?_ | refine v_k ?_ | refine m_nil ?_)
      (refine awp_ret ?_; (repeat (first | refine then_r ?_ | refine block_r ?_ | refine loop_r ?_)); apply ret_ok (.inr rfl); (focus exact rfl))
      rfl

/-- Does a machine have these outputs? -/
def ansB (nx ou ws os : List (List Int)) : Bool := decide (ws.map (runO nx ou 0) = os)
theorem ans_step {nx ou ws os : List (List Int)} {i : Nat} (h1 : i < ws.length) (h2 : i < os.length) (ht : (ws.take i).map (runO nx ou 0) = os.take i) (hc : runO nx ou 0 ws[i] = os[i]) : (ws.take (i + 1)).map (runO nx ou 0) = os.take (i + 1) := by
  rw [List.take_succ_eq_append_getElem h1, List.take_succ_eq_append_getElem h2, List.map_append, ht, List.map_singleton, hc]
theorem ans_no {nx ou ws os : List (List Int)} {i : Nat} (h1 : i < ws.length) (h2 : i < os.length) (hc : ¬ runO nx ou 0 ws[i] = os[i]) : ansB nx ou ws os = false := by
  unfold ansB
  rw [decide_eq_false_iff_not]
  intro e
  subst e
  exact hc (by simp)
theorem ans_yes {nx ou ws os : List (List Int)} (hl : ws.length = os.length) (ht : (ws.take ws.length).map (runO nx ou 0) = os.take ws.length) : ansB nx ou ws os = true := by
  rw [List.take_length, hl, List.take_length] at ht
  simp [ansB, ht]

theorem spec_l07Answers {s o : Int} {nx ou ws os : List (List Int)} (m : MV s o nx ou) (hw : SuOk nx.length ws) (h3 : RowsOk os) (hl : ws.length = os.length) : AC Try.prog 60 [.ptr (mach s o nx ou), rows ws, rows os] (.bool (ansB nx ou ws os)) := by
  have hle : (List.map ints ws).length = ws.length := by simp
  have hs1 := m.s1
  have hwl := hw.len
  refine ac_intro tabIs _ Try.func60 rfl rfl Try.ntmps60 rfl rfl fun w0 ok0 => ?_
  repeat (first | refine awp_seq ?_ | refine then_n ?_ | refine then_r ?_ | refine then_x ?_ | refine block_n ?_ | refine block_r ?_ | refine block_x ?_ | refine u_y ?_ | refine loop_r ?_ | refine loop_x ?_ | refine awp_region ?_ | refine awpL_nil ?_ | refine awpQL_nil ?_ | refine awp_block ?_ | refine awp_skip ?_ | refine awp_exit ?_ | refine awp_label ?_ | refine u_dT ?_ | refine u_d ?_ | refine u_l ?_ | refine u_o ?_ | refine u_q ?_ | refine u_lr ?_ | refine u_qr ?_ | refine u_ls ?_ | refine u_qs ?_ | refine u_t ?_ | refine u_f ?_ | refine v_s ?_ | refine v_o ?_ | refine v_on ?_ | refine v_og ?_ | refine v_q ?_ | refine v_sr ?_ | refine v_k ?_ | refine m_nil ?_)
  refine awp_loop (fun i : Nat => i ≤ ws.length ∧ (ws.take i).map (runO nx ou 0) = os.take i) (fun i => [(0, .d (.ptr (mach s o nx ou))), (1, .d (rows ws)), (2, .d (rows os)), (7, .d (.int .i64 i))]) (fun _ => []) (fun i => ws.length - i) 0 ⟨by omega, rfl⟩ ?_ rfl ?_
  · ((repeat (first | exact trivial | (refine ⟨?_, ?_⟩; (focus (first | rfl | (simp [lk, argsS, args0]; done) | (simp [lk, argsS, args0]; omega)))))))
  · rintro i ⟨hi, ht⟩
    by_cases hlt : i < ws.length
    · have hlt2 : i < os.length := by omega
      have x1 := el_row hlt
      have x2 := el_row hlt2
      obtain ⟨y1, y2⟩ := hw.all _ (List.getElem_mem hlt)
      have e1 := spec_l06Run m (q0 := 0) (by omega) y1 y2
      have e2 := spec_l00Same (a := runO nx ou 0 ws[i]) (b := os[i]) (by rw [runO_length]; omega) (h3.1 _ (List.getElem_mem hlt2)).2
      by_cases hc : runO nx ou 0 ws[i] = os[i]
      · have hst := ans_step hlt hlt2 ht hc
        rw [decide_eq_true hc] at e2
        repeat (first | refine awp_seq ?_ | refine then_n ?_ | refine then_r ?_ | refine then_x ?_ | refine block_n ?_ | refine block_r ?_ | refine block_x ?_ | refine u_y ?_ | refine loop_r ?_ | refine loop_x ?_ | refine awp_region ?_ | refine awpL_nil ?_ | refine awpQL_nil ?_ | refine awp_block ?_ | refine awp_skip ?_ | refine awp_exit ?_ | refine awp_label ?_ | refine u_dT ?_ | refine u_d ?_ | ((first | apply c_l | apply c_q | apply c_lr | apply c_qr); (iterate 2 exact rfl); (focus (first | exact e1 | exact e2)); (iterate 2 exact rfl)) | (apply v_c; (iterate 4 exact rfl); (focus (first | exact e1 | exact e2)); (iterate 2 exact rfl)) | refine u_l ?_ | refine u_o ?_ | refine u_q ?_ | refine u_lr ?_ | refine u_qr ?_ | refine u_ls ?_ | refine u_qs ?_ | refine u_t ?_ | refine u_f ?_ | refine v_s ?_ | refine v_o ?_ | refine v_on ?_ | refine v_og ?_ | refine v_q ?_ | refine v_sr ?_ | refine v_k ?_ | refine m_nil ?_)
        refine loop_n (i + 1) ⟨by omega, hst⟩ ?_ rfl (by omega)
        ((repeat (first | exact trivial | (refine ⟨?_, ?_⟩; (focus (first | rfl | (simp [lk, argsS, args0]; done) | (simp [lk, argsS, args0]; omega)))))))
      · rw [decide_eq_false hc] at e2
        have hno := ans_no hlt hlt2 hc
        repeat (first | refine awp_seq ?_ | refine then_n ?_ | refine then_r ?_ | refine then_x ?_ | refine block_n ?_ | refine block_r ?_ | refine block_x ?_ | refine u_y ?_ | refine loop_r ?_ | refine loop_x ?_ | refine awp_region ?_ | refine awpL_nil ?_ | refine awpQL_nil ?_ | refine awp_block ?_ | refine awp_skip ?_ | refine awp_exit ?_ | refine awp_label ?_ | refine u_dT ?_ | refine u_d ?_ | ((first | apply c_l | apply c_q | apply c_lr | apply c_qr); (iterate 2 exact rfl); (focus (first | exact e1 | exact e2)); (iterate 2 exact rfl)) | (apply v_c; (iterate 4 exact rfl); (focus (first | exact e1 | exact e2)); (iterate 2 exact rfl)) | refine u_l ?_ | refine u_o ?_ | refine u_q ?_ | refine u_lr ?_ | refine u_qr ?_ | refine u_ls ?_ | refine u_qs ?_ | refine u_t ?_ | refine u_f ?_ | refine v_s ?_ | refine v_o ?_ | refine v_on ?_ | refine v_og ?_ | refine v_q ?_ | refine v_sr ?_ | refine v_k ?_ | refine m_nil ?_)
        (refine awp_ret ?_; (repeat (first | refine then_r ?_ | refine block_r ?_ | refine loop_r ?_)); apply ret_ok (.inr rfl); (focus exact rfl))
        rw [hno]
    · have hi' : i = ws.length := by omega
      subst hi'
      have hyes := ans_yes hl ht
      repeat (first | refine awp_seq ?_ | refine then_n ?_ | refine then_r ?_ | refine then_x ?_ | refine block_n ?_ | refine block_r ?_ | refine block_x ?_ | refine u_y ?_ | refine loop_r ?_ | refine loop_x ?_ | refine awp_region ?_ | refine awpL_nil ?_ | refine awpQL_nil ?_ | refine awp_block ?_ | refine awp_skip ?_ | refine awp_exit ?_ | refine awp_label ?_ | refine u_dT ?_ | refine u_d ?_ | refine u_l ?_ | refine u_o ?_ | refine u_q ?_ | refine u_lr ?_ | refine u_qr ?_ | refine u_ls ?_ | refine u_qs ?_ | refine u_t ?_ | refine u_f ?_ | refine v_s ?_ | refine v_o ?_ | refine v_on ?_ | refine v_og ?_ | refine v_q ?_ | refine v_sr ?_ | refine v_k ?_ | refine m_nil ?_)
      (refine awp_ret ?_; (repeat (first | refine then_r ?_ | refine block_r ?_ | refine loop_r ?_)); apply ret_ok (.inr rfl); (focus exact rfl))
      rw [hyes]

theorem impl_Candidates2 {s o : Int} {nx ou ws os : List (List Int)} (m : MV s o nx ou) (hw : SuOk nx.length ws) (h3 : RowsOk os) (hl : ws.length = os.length) : AC Try.prog 57 [mach s o nx ou, .ptr (rows ws), .ptr (rows os)] (.bool (ansB nx ou ws os)) := by
  have hle : (List.map ints ws).length = ws.length := by simp
  have hs1 := m.s1
  have hwl := hw.len
  refine ac_intro tabIs _ Try.func57 rfl rfl Try.ntmps57 rfl rfl fun w0 ok0 => ?_
  repeat (first | refine awp_seq ?_ | refine then_n ?_ | refine then_r ?_ | refine then_x ?_ | refine block_n ?_ | refine block_r ?_ | refine block_x ?_ | refine u_y ?_ | refine loop_r ?_ | refine loop_x ?_ | refine awp_region ?_ | refine awpL_nil ?_ | refine awpQL_nil ?_ | refine awp_block ?_ | refine awp_skip ?_ | refine awp_exit ?_ | refine awp_label ?_ | refine u_dT ?_ | refine u_d ?_ | refine u_l ?_ | refine u_o ?_ | refine u_q ?_ | refine u_lr ?_ | refine u_qr ?_ | refine u_ls ?_ | refine u_qs ?_ | refine u_t ?_ | refine u_f ?_ | refine v_s ?_ | refine v_o ?_ | refine v_on ?_ | refine v_og ?_ | refine v_q ?_ | refine v_sr ?_ | refine v_k ?_ | refine m_nil ?_)
  refine awp_loop (fun i : Nat => i ≤ ws.length ∧ (ws.take i).map (runO nx ou 0) = os.take i) (fun i => [(2, .d (.ptr (rows os))), (3, .d (.ptr (mach s o nx ou))), (9, .d (rows ws)), (10, .d (.int .i64 (List.map ints ws).length)), (11, .d (.int .i64 i))]) (fun _ => []) (fun i => ws.length - i) 0 ⟨by omega, rfl⟩ ?_ rfl ?_
  · ((repeat (first | exact trivial | (refine ⟨?_, ?_⟩; (focus (first | rfl | (simp [lk, argsS, args0]; done) | (simp [lk, argsS, args0]; omega)))))))
  · rintro i ⟨hi, ht⟩
    by_cases hlt : i < ws.length
    · have hlt2 : i < os.length := by omega
      have x1 := el_row hlt
      have x2 := el_row hlt2
      obtain ⟨y1, y2⟩ := hw.all _ (List.getElem_mem hlt)
      have e1 := impl_outputs m (q0 := 0) (by omega) y1 y2
      have e2 := slices_EqualI (a := runO nx ou 0 ws[i]) (b := os[i]) (by rw [runO_length]; omega) (h3.1 _ (List.getElem_mem hlt2)).2
      by_cases hc : runO nx ou 0 ws[i] = os[i]
      · have hst := ans_step hlt hlt2 ht hc
        rw [decide_eq_true hc] at e2
        repeat (first | refine awp_seq ?_ | refine then_n ?_ | refine then_r ?_ | refine then_x ?_ | refine block_n ?_ | refine block_r ?_ | refine block_x ?_ | refine u_y ?_ | refine loop_r ?_ | refine loop_x ?_ | refine awp_region ?_ | refine awpL_nil ?_ | refine awpQL_nil ?_ | refine awp_block ?_ | refine awp_skip ?_ | refine awp_exit ?_ | refine awp_label ?_ | refine u_dT ?_ | refine u_d ?_ | ((first | apply c_l | apply c_q | apply c_lr | apply c_qr); (iterate 2 exact rfl); (focus (first | exact e1 | exact e2)); (iterate 2 exact rfl)) | (apply v_c; (iterate 4 exact rfl); (focus (first | exact e1 | exact e2)); (iterate 2 exact rfl)) | refine u_l ?_ | refine u_o ?_ | refine u_q ?_ | refine u_lr ?_ | refine u_qr ?_ | refine u_ls ?_ | refine u_qs ?_ | refine u_t ?_ | refine u_f ?_ | refine v_s ?_ | refine v_o ?_ | refine v_on ?_ | refine v_og ?_ | refine v_q ?_ | refine v_sr ?_ | refine v_k ?_ | refine m_nil ?_)
        refine loop_n (i + 1) ⟨by omega, hst⟩ ?_ rfl (by omega)
        ((repeat (first | exact trivial | (refine ⟨?_, ?_⟩; (focus (first | rfl | (simp [lk, argsS, args0]; done) | (simp [lk, argsS, args0]; omega)))))))
      · rw [decide_eq_false hc] at e2
        have hno := ans_no hlt hlt2 hc
        repeat (first | refine awp_seq ?_ | refine then_n ?_ | refine then_r ?_ | refine then_x ?_ | refine block_n ?_ | refine block_r ?_ | refine block_x ?_ | refine u_y ?_ | refine loop_r ?_ | refine loop_x ?_ | refine awp_region ?_ | refine awpL_nil ?_ | refine awpQL_nil ?_ | refine awp_block ?_ | refine awp_skip ?_ | refine awp_exit ?_ | refine awp_label ?_ | refine u_dT ?_ | refine u_d ?_ | ((first | apply c_l | apply c_q | apply c_lr | apply c_qr); (iterate 2 exact rfl); (focus (first | exact e1 | exact e2)); (iterate 2 exact rfl)) | (apply v_c; (iterate 4 exact rfl); (focus (first | exact e1 | exact e2)); (iterate 2 exact rfl)) | refine u_l ?_ | refine u_o ?_ | refine u_q ?_ | refine u_lr ?_ | refine u_qr ?_ | refine u_ls ?_ | refine u_qs ?_ | refine u_t ?_ | refine u_f ?_ | refine v_s ?_ | refine v_o ?_ | refine v_on ?_ | refine v_og ?_ | refine v_q ?_ | refine v_sr ?_ | refine v_k ?_ | refine m_nil ?_)
        (refine awp_ret ?_; (repeat (first | refine then_r ?_ | refine block_r ?_ | refine loop_r ?_)); apply ret_ok (.inr rfl); (focus exact rfl))
        rw [hno]
    · have hi' : i = ws.length := by omega
      subst hi'
      have hyes := ans_yes hl ht
      repeat (first | refine awp_seq ?_ | refine then_n ?_ | refine then_r ?_ | refine then_x ?_ | refine block_n ?_ | refine block_r ?_ | refine block_x ?_ | refine u_y ?_ | refine loop_r ?_ | refine loop_x ?_ | refine awp_region ?_ | refine awpL_nil ?_ | refine awpQL_nil ?_ | refine awp_block ?_ | refine awp_skip ?_ | refine awp_exit ?_ | refine awp_label ?_ | refine u_dT ?_ | refine u_d ?_ | refine u_l ?_ | refine u_o ?_ | refine u_q ?_ | refine u_lr ?_ | refine u_qr ?_ | refine u_ls ?_ | refine u_qs ?_ | refine u_t ?_ | refine u_f ?_ | refine v_s ?_ | refine v_o ?_ | refine v_on ?_ | refine v_og ?_ | refine v_q ?_ | refine v_sr ?_ | refine v_k ?_ | refine m_nil ?_)
      (refine awp_ret ?_; (repeat (first | refine then_r ?_ | refine block_r ?_ | refine loop_r ?_)); apply ret_ok (.inr rfl); (focus exact rfl))
      rw [hyes]

/-- The numbers of the mutants that have the outputs, -1 in front if the machine has them. -/
def canL (s o : Int) (nx ou ws os : List (List Int)) : Nat → List Int
  | 0 => if ansB nx ou ws os then [-1] else []
  | k + 1 => canL s o nx ou ws os k ++ if ansB (mutX s o nx ou k).1 (mutX s o nx ou k).2 ws os then [(k : Int)] else []
theorem canL_len (s o : Int) (nx ou ws os : List (List Int)) : ∀ k, (canL s o nx ou ws os k).length ≤ k + 1
  | 0 => by unfold canL; split <;> simp
  | k + 1 => by
    have := canL_len s o nx ou ws os k
    unfold canL
    rw [List.length_append]
    split <;> simp <;> omega

def canD (s o : Int) (nx ou ws os : List (List Int)) : List Int × Int :=
  if machOk s o nx ou then (if suiteOk nx.length ws then (if ws.length = os.length then (canL s o nx ou ws os (mutN s o nx.length).toNat, 0) else ([], 2)) else ([], 2)) else ([], 1)

theorem spec_Candidates {s o : Int} {nx ou ws os : List (List Int)} (h1 : RowsOk nx) (h2 : RowsOk ou) (h3 : RowsOk ws) (h4 : RowsOk os) :
    AC Try.prog 22 [mach s o nx ou, rows ws, rows os] (.tup [ints (canD s o nx ou ws os).1, .int .i64 (canD s o nx ou ws os).2]) := by
  have e1 := spec_l07Given (s := s) (o := o) h1 h2 h3
  have mm1 : (List.map ints ws).length = ws.length := by simp
  have mm2 : (List.map ints os).length = os.length := by simp
  unfold canD
  by_cases hv : machOk s o nx ou = true
  · rw [if_pos hv] at e1 ⊢
    by_cases hr : suiteOk nx.length ws = true
    · rw [if_pos hr] at e1 ⊢
      by_cases hl : ws.length = os.length
      · rw [if_pos hl]
        obtain ⟨q1, q2⟩ := suite_of hr
        have m := mv_of hv
        have hb := mutN_bounds m.s1 m.o1 m.n1.2
        have e2 := spec_l07Answers m ⟨q1, q2⟩ h4 hl
        have e3 := spec_l07Count (ou := ou) m.s1 m.o1 m.n1.2
        have h0 : canL s o nx ou ws os 0 = if ansB nx ou ws os then [-1] else [] := rfl
        cases ha : ansB nx ou ws os with
        | true =>
          rw [ha] at e2 h0
          refine ac_intro tabIs _ Try.func22 rfl rfl Try.ntmps22 rfl rfl fun w0 ok0 => ?_
          repeat (first | refine v_w (t := 24) ?_ | refine awp_seq ?_ | refine then_n ?_ | refine then_r ?_ | refine then_x ?_ | refine block_n ?_ | refine block_r ?_ | refine block_x ?_ | refine u_y ?_ | refine loop_r ?_ | refine loop_x ?_ | refine awp_region ?_ | refine awpL_nil ?_ | refine awpQL_nil ?_ | refine awp_block ?_ | refine awp_skip ?_ | refine awp_exit ?_ | refine awp_label ?_ | refine u_dT ?_ | refine u_d ?_ | refine u_w (t := 24) ?_ | ((first | apply c_l | apply c_q | apply c_lr | apply c_qr); (iterate 2 exact rfl); (focus (first | exact e1 | exact e2)); (iterate 2 exact rfl)) | (apply v_c; (iterate 4 exact rfl); (focus (first | exact e1 | exact e2)); (iterate 2 exact rfl)) | refine u_l ?_ | refine u_o ?_ | refine u_q ?_ | refine u_lr ?_ | refine u_qr ?_ | refine u_ls ?_ | refine u_qs ?_ | refine u_t ?_ | refine u_f ?_ | refine v_s ?_ | refine v_o ?_ | refine v_on ?_ | refine v_og ?_ | refine v_q ?_ | refine v_sr ?_ | refine v_k ?_ | refine m_nil ?_)
          refine awp_loop (fun k : Nat => (k : Int) ≤ mutN s o nx.length) (fun k => [(1, .d (rows ws)), (2, .d (rows os)), (3, .d (.ptr (mach s o nx ou))), (9, .own 24), (10, .d (.int .i64 k))]) (fun k => [(24, .arr 2 1 ((canL s o nx ou ws os k).map (.int .i64)))]) (fun k => (mutN s o nx.length).toNat - k) 0 (by omega) ?_ (by rw [h0]; rfl) ?_
          · ((repeat (first | exact trivial | (refine ⟨?_, ?_⟩; (focus (first | rfl | (simp [lk, argsS, args0]; done) | (simp [lk, argsS, args0]; omega)))))))
          · intro k hk
            have hkl := canL_len s o nx ou ws os k
            have hml : ((canL s o nx ou ws os k).map (D.int .i64)).length ≤ 1000 := by simp; omega
            by_cases hlt : (k : Int) < mutN s o nx.length
            · have f2 := spec_l07Mutant m (k := (k : Int)) (by omega)
              obtain ⟨m', hl'⟩ := mv_mut m (k := (k : Int)) (by omega)
              have f3 := spec_l07Answers m' (by rw [hl']; exact ⟨q1, q2⟩) h4 hl
              have hstep : canL s o nx ou ws os (k + 1) = canL s o nx ou ws os k ++ if ansB (mutX s o nx ou k).1 (mutX s o nx ou k).2 ws os then [(k : Int)] else [] := rfl
              cases hb2 : ansB (mutX s o nx ou k).1 (mutX s o nx ou k).2 ws os with
              | true =>
                rw [hb2] at f3 hstep
                simp only [if_true] at hstep
                generalize mutX s o nx ou k = X at *
                repeat (first | refine awp_seq ?_ | refine then_n ?_ | refine then_r ?_ | refine then_x ?_ | refine block_n ?_ | refine block_r ?_ | refine block_x ?_ | refine u_y ?_ | refine loop_r ?_ | refine loop_x ?_ | refine awp_region ?_ | refine awpL_nil ?_ | refine awpQL_nil ?_ | refine awp_block ?_ | refine awp_skip ?_ | refine awp_exit ?_ | refine awp_label ?_ | refine u_dT ?_ | refine u_d ?_ | ((first | apply c_l | apply c_q | apply c_lr | apply c_qr); (iterate 2 exact rfl); (focus (first | exact e3 | exact f2)); (iterate 2 exact rfl)) | (apply v_c; (iterate 4 exact rfl); (focus (first | exact e3 | exact f2)); (iterate 2 exact rfl)) | refine u_l ?_ | refine u_o ?_ | refine u_q ?_ | refine u_lr ?_ | refine u_qr ?_ | refine u_ls ?_ | refine u_qs ?_ | refine u_t ?_ | refine u_f ?_ | refine v_s ?_ | refine v_o ?_ | refine v_on ?_ | refine v_og ?_ | refine v_q ?_ | refine v_sr ?_ | refine v_k ?_ | refine m_nil ?_)
                refine awpL_freezeB 11 rfl rfl rfl ?_
                repeat (first | refine awp_seq ?_ | refine then_n ?_ | refine then_r ?_ | refine then_x ?_ | refine block_n ?_ | refine block_r ?_ | refine block_x ?_ | refine u_y ?_ | refine loop_r ?_ | refine loop_x ?_ | refine awp_region ?_ | refine awpL_nil ?_ | refine awpQL_nil ?_ | refine awp_block ?_ | refine awp_skip ?_ | refine awp_exit ?_ | refine awp_label ?_ | refine u_dT ?_ | refine u_d ?_ | ((first | apply c_l | apply c_q | apply c_lr | apply c_qr); (iterate 2 exact rfl); (focus (first | exact f3)); (iterate 2 exact rfl)) | (apply v_c; (iterate 4 exact rfl); (focus (first | exact f3)); (iterate 2 exact rfl)) | refine u_l ?_ | refine u_o ?_ | refine u_q ?_ | refine u_lr ?_ | refine u_qr ?_ | refine u_ls ?_ | refine u_qs ?_ | refine u_t ?_ | refine u_f ?_ | refine v_s ?_ | refine v_o ?_ | refine v_on ?_ | refine v_og ?_ | refine v_q ?_ | refine v_sr ?_ | refine v_k ?_ | refine m_nil ?_)
                refine loop_n (k + 1) (by omega) ?_ ?_ (by omega)
                · ((repeat (first | exact trivial | (refine ⟨?_, ?_⟩; (focus (first | rfl | (simp [lk, argsS, args0]; done) | (simp [lk, argsS, args0]; omega)))))))
                · rw [hstep, List.map_append]; rfl
              | false =>
                rw [hb2] at f3 hstep
                simp only [Bool.false_eq_true, if_false, List.append_nil] at hstep
                generalize mutX s o nx ou k = X at *
                repeat (first | refine awp_seq ?_ | refine then_n ?_ | refine then_r ?_ | refine then_x ?_ | refine block_n ?_ | refine block_r ?_ | refine block_x ?_ | refine u_y ?_ | refine loop_r ?_ | refine loop_x ?_ | refine awp_region ?_ | refine awpL_nil ?_ | refine awpQL_nil ?_ | refine awp_block ?_ | refine awp_skip ?_ | refine awp_exit ?_ | refine awp_label ?_ | refine u_dT ?_ | refine u_d ?_ | ((first | apply c_l | apply c_q | apply c_lr | apply c_qr); (iterate 2 exact rfl); (focus (first | exact e3 | exact f2)); (iterate 2 exact rfl)) | (apply v_c; (iterate 4 exact rfl); (focus (first | exact e3 | exact f2)); (iterate 2 exact rfl)) | refine u_l ?_ | refine u_o ?_ | refine u_q ?_ | refine u_lr ?_ | refine u_qr ?_ | refine u_ls ?_ | refine u_qs ?_ | refine u_t ?_ | refine u_f ?_ | refine v_s ?_ | refine v_o ?_ | refine v_on ?_ | refine v_og ?_ | refine v_q ?_ | refine v_sr ?_ | refine v_k ?_ | refine m_nil ?_)
                refine awpL_freezeB 11 rfl rfl rfl ?_
                repeat (first | refine awp_seq ?_ | refine then_n ?_ | refine then_r ?_ | refine then_x ?_ | refine block_n ?_ | refine block_r ?_ | refine block_x ?_ | refine u_y ?_ | refine loop_r ?_ | refine loop_x ?_ | refine awp_region ?_ | refine awpL_nil ?_ | refine awpQL_nil ?_ | refine awp_block ?_ | refine awp_skip ?_ | refine awp_exit ?_ | refine awp_label ?_ | refine u_dT ?_ | refine u_d ?_ | ((first | apply c_l | apply c_q | apply c_lr | apply c_qr); (iterate 2 exact rfl); (focus (first | exact f3)); (iterate 2 exact rfl)) | (apply v_c; (iterate 4 exact rfl); (focus (first | exact f3)); (iterate 2 exact rfl)) | refine u_l ?_ | refine u_o ?_ | refine u_q ?_ | refine u_lr ?_ | refine u_qr ?_ | refine u_ls ?_ | refine u_qs ?_ | refine u_t ?_ | refine u_f ?_ | refine v_s ?_ | refine v_o ?_ | refine v_on ?_ | refine v_og ?_ | refine v_q ?_ | refine v_sr ?_ | refine v_k ?_ | refine m_nil ?_)
                refine loop_n (k + 1) (by omega) ?_ ?_ (by omega)
                · ((repeat (first | exact trivial | (refine ⟨?_, ?_⟩; (focus (first | rfl | (simp [lk, argsS, args0]; done) | (simp [lk, argsS, args0]; omega)))))))
                · rw [hstep]; rfl
            · have hk' : k = (mutN s o nx.length).toNat := by omega
              subst hk'
              repeat (first | refine awp_seq ?_ | refine then_n ?_ | refine then_r ?_ | refine then_x ?_ | refine block_n ?_ | refine block_r ?_ | refine block_x ?_ | refine u_y ?_ | refine loop_r ?_ | refine loop_x ?_ | refine awp_region ?_ | refine awpL_nil ?_ | refine awpQL_nil ?_ | refine awp_block ?_ | refine awp_skip ?_ | refine awp_exit ?_ | refine awp_label ?_ | refine u_dT ?_ | refine u_d ?_ | ((first | apply c_l | apply c_q | apply c_lr | apply c_qr); (iterate 2 exact rfl); (focus (first | exact e3)); (iterate 2 exact rfl)) | (apply v_c; (iterate 4 exact rfl); (focus (first | exact e3)); (iterate 2 exact rfl)) | refine u_l ?_ | refine u_o ?_ | refine u_q ?_ | refine u_lr ?_ | refine u_qr ?_ | refine u_ls ?_ | refine u_qs ?_ | refine u_t ?_ | refine u_f ?_ | refine v_s ?_ | refine v_o ?_ | refine v_on ?_ | refine v_og ?_ | refine v_q ?_ | refine v_sr ?_ | refine v_k ?_ | refine m_nil ?_)
              (refine awp_ret ?_; (repeat (first | refine then_r ?_ | refine block_r ?_ | refine loop_r ?_)); apply ret_ok (.inr rfl); (focus exact rfl))
              rfl
        | false =>
          rw [ha] at e2 h0
          refine ac_intro tabIs _ Try.func22 rfl rfl Try.ntmps22 rfl rfl fun w0 ok0 => ?_
          repeat (first | refine v_w (t := 24) ?_ | refine awp_seq ?_ | refine then_n ?_ | refine then_r ?_ | refine then_x ?_ | refine block_n ?_ | refine block_r ?_ | refine block_x ?_ | refine u_y ?_ | refine loop_r ?_ | refine loop_x ?_ | refine awp_region ?_ | refine awpL_nil ?_ | refine awpQL_nil ?_ | refine awp_block ?_ | refine awp_skip ?_ | refine awp_exit ?_ | refine awp_label ?_ | refine u_dT ?_ | refine u_d ?_ | refine u_w (t := 24) ?_ | ((first | apply c_l | apply c_q | apply c_lr | apply c_qr); (iterate 2 exact rfl); (focus (first | exact e1 | exact e2)); (iterate 2 exact rfl)) | (apply v_c; (iterate 4 exact rfl); (focus (first | exact e1 | exact e2)); (iterate 2 exact rfl)) | refine u_l ?_ | refine u_o ?_ | refine u_q ?_ | refine u_lr ?_ | refine u_qr ?_ | refine u_ls ?_ | refine u_qs ?_ | refine u_t ?_ | refine u_f ?_ | refine v_s ?_ | refine v_o ?_ | refine v_on ?_ | refine v_og ?_ | refine v_q ?_ | refine v_sr ?_ | refine v_k ?_ | refine m_nil ?_)
          refine awp_loop (fun k : Nat => (k : Int) ≤ mutN s o nx.length) (fun k => [(1, .d (rows ws)), (2, .d (rows os)), (3, .d (.ptr (mach s o nx ou))), (9, .own 24), (10, .d (.int .i64 k))]) (fun k => [(24, .arr 2 1 ((canL s o nx ou ws os k).map (.int .i64)))]) (fun k => (mutN s o nx.length).toNat - k) 0 (by omega) ?_ (by rw [h0]; rfl) ?_
          · ((repeat (first | exact trivial | (refine ⟨?_, ?_⟩; (focus (first | rfl | (simp [lk, argsS, args0]; done) | (simp [lk, argsS, args0]; omega)))))))
          · intro k hk
            have hkl := canL_len s o nx ou ws os k
            have hml : ((canL s o nx ou ws os k).map (D.int .i64)).length ≤ 1000 := by simp; omega
            by_cases hlt : (k : Int) < mutN s o nx.length
            · have f2 := spec_l07Mutant m (k := (k : Int)) (by omega)
              obtain ⟨m', hl'⟩ := mv_mut m (k := (k : Int)) (by omega)
              have f3 := spec_l07Answers m' (by rw [hl']; exact ⟨q1, q2⟩) h4 hl
              have hstep : canL s o nx ou ws os (k + 1) = canL s o nx ou ws os k ++ if ansB (mutX s o nx ou k).1 (mutX s o nx ou k).2 ws os then [(k : Int)] else [] := rfl
              cases hb2 : ansB (mutX s o nx ou k).1 (mutX s o nx ou k).2 ws os with
              | true =>
                rw [hb2] at f3 hstep
                simp only [if_true] at hstep
                generalize mutX s o nx ou k = X at *
                repeat (first | refine awp_seq ?_ | refine then_n ?_ | refine then_r ?_ | refine then_x ?_ | refine block_n ?_ | refine block_r ?_ | refine block_x ?_ | refine u_y ?_ | refine loop_r ?_ | refine loop_x ?_ | refine awp_region ?_ | refine awpL_nil ?_ | refine awpQL_nil ?_ | refine awp_block ?_ | refine awp_skip ?_ | refine awp_exit ?_ | refine awp_label ?_ | refine u_dT ?_ | refine u_d ?_ | ((first | apply c_l | apply c_q | apply c_lr | apply c_qr); (iterate 2 exact rfl); (focus (first | exact e3 | exact f2)); (iterate 2 exact rfl)) | (apply v_c; (iterate 4 exact rfl); (focus (first | exact e3 | exact f2)); (iterate 2 exact rfl)) | refine u_l ?_ | refine u_o ?_ | refine u_q ?_ | refine u_lr ?_ | refine u_qr ?_ | refine u_ls ?_ | refine u_qs ?_ | refine u_t ?_ | refine u_f ?_ | refine v_s ?_ | refine v_o ?_ | refine v_on ?_ | refine v_og ?_ | refine v_q ?_ | refine v_sr ?_ | refine v_k ?_ | refine m_nil ?_)
                refine awpL_freezeB 11 rfl rfl rfl ?_
                repeat (first | refine awp_seq ?_ | refine then_n ?_ | refine then_r ?_ | refine then_x ?_ | refine block_n ?_ | refine block_r ?_ | refine block_x ?_ | refine u_y ?_ | refine loop_r ?_ | refine loop_x ?_ | refine awp_region ?_ | refine awpL_nil ?_ | refine awpQL_nil ?_ | refine awp_block ?_ | refine awp_skip ?_ | refine awp_exit ?_ | refine awp_label ?_ | refine u_dT ?_ | refine u_d ?_ | ((first | apply c_l | apply c_q | apply c_lr | apply c_qr); (iterate 2 exact rfl); (focus (first | exact f3)); (iterate 2 exact rfl)) | (apply v_c; (iterate 4 exact rfl); (focus (first | exact f3)); (iterate 2 exact rfl)) | refine u_l ?_ | refine u_o ?_ | refine u_q ?_ | refine u_lr ?_ | refine u_qr ?_ | refine u_ls ?_ | refine u_qs ?_ | refine u_t ?_ | refine u_f ?_ | refine v_s ?_ | refine v_o ?_ | refine v_on ?_ | refine v_og ?_ | refine v_q ?_ | refine v_sr ?_ | refine v_k ?_ | refine m_nil ?_)
                refine loop_n (k + 1) (by omega) ?_ ?_ (by omega)
                · ((repeat (first | exact trivial | (refine ⟨?_, ?_⟩; (focus (first | rfl | (simp [lk, argsS, args0]; done) | (simp [lk, argsS, args0]; omega)))))))
                · rw [hstep, List.map_append]; rfl
              | false =>
                rw [hb2] at f3 hstep
                simp only [Bool.false_eq_true, if_false, List.append_nil] at hstep
                generalize mutX s o nx ou k = X at *
                repeat (first | refine awp_seq ?_ | refine then_n ?_ | refine then_r ?_ | refine then_x ?_ | refine block_n ?_ | refine block_r ?_ | refine block_x ?_ | refine u_y ?_ | refine loop_r ?_ | refine loop_x ?_ | refine awp_region ?_ | refine awpL_nil ?_ | refine awpQL_nil ?_ | refine awp_block ?_ | refine awp_skip ?_ | refine awp_exit ?_ | refine awp_label ?_ | refine u_dT ?_ | refine u_d ?_ | ((first | apply c_l | apply c_q | apply c_lr | apply c_qr); (iterate 2 exact rfl); (focus (first | exact e3 | exact f2)); (iterate 2 exact rfl)) | (apply v_c; (iterate 4 exact rfl); (focus (first | exact e3 | exact f2)); (iterate 2 exact rfl)) | refine u_l ?_ | refine u_o ?_ | refine u_q ?_ | refine u_lr ?_ | refine u_qr ?_ | refine u_ls ?_ | refine u_qs ?_ | refine u_t ?_ | refine u_f ?_ | refine v_s ?_ | refine v_o ?_ | refine v_on ?_ | refine v_og ?_ | refine v_q ?_ | refine v_sr ?_ | refine v_k ?_ | refine m_nil ?_)
                refine awpL_freezeB 11 rfl rfl rfl ?_
                repeat (first | refine awp_seq ?_ | refine then_n ?_ | refine then_r ?_ | refine then_x ?_ | refine block_n ?_ | refine block_r ?_ | refine block_x ?_ | refine u_y ?_ | refine loop_r ?_ | refine loop_x ?_ | refine awp_region ?_ | refine awpL_nil ?_ | refine awpQL_nil ?_ | refine awp_block ?_ | refine awp_skip ?_ | refine awp_exit ?_ | refine awp_label ?_ | refine u_dT ?_ | refine u_d ?_ | ((first | apply c_l | apply c_q | apply c_lr | apply c_qr); (iterate 2 exact rfl); (focus (first | exact f3)); (iterate 2 exact rfl)) | (apply v_c; (iterate 4 exact rfl); (focus (first | exact f3)); (iterate 2 exact rfl)) | refine u_l ?_ | refine u_o ?_ | refine u_q ?_ | refine u_lr ?_ | refine u_qr ?_ | refine u_ls ?_ | refine u_qs ?_ | refine u_t ?_ | refine u_f ?_ | refine v_s ?_ | refine v_o ?_ | refine v_on ?_ | refine v_og ?_ | refine v_q ?_ | refine v_sr ?_ | refine v_k ?_ | refine m_nil ?_)
                refine loop_n (k + 1) (by omega) ?_ ?_ (by omega)
                · ((repeat (first | exact trivial | (refine ⟨?_, ?_⟩; (focus (first | rfl | (simp [lk, argsS, args0]; done) | (simp [lk, argsS, args0]; omega)))))))
                · rw [hstep]; rfl
            · have hk' : k = (mutN s o nx.length).toNat := by omega
              subst hk'
              repeat (first | refine awp_seq ?_ | refine then_n ?_ | refine then_r ?_ | refine then_x ?_ | refine block_n ?_ | refine block_r ?_ | refine block_x ?_ | refine u_y ?_ | refine loop_r ?_ | refine loop_x ?_ | refine awp_region ?_ | refine awpL_nil ?_ | refine awpQL_nil ?_ | refine awp_block ?_ | refine awp_skip ?_ | refine awp_exit ?_ | refine awp_label ?_ | refine u_dT ?_ | refine u_d ?_ | ((first | apply c_l | apply c_q | apply c_lr | apply c_qr); (iterate 2 exact rfl); (focus (first | exact e3)); (iterate 2 exact rfl)) | (apply v_c; (iterate 4 exact rfl); (focus (first | exact e3)); (iterate 2 exact rfl)) | refine u_l ?_ | refine u_o ?_ | refine u_q ?_ | refine u_lr ?_ | refine u_qr ?_ | refine u_ls ?_ | refine u_qs ?_ | refine u_t ?_ | refine u_f ?_ | refine v_s ?_ | refine v_o ?_ | refine v_on ?_ | refine v_og ?_ | refine v_q ?_ | refine v_sr ?_ | refine v_k ?_ | refine m_nil ?_)
              (refine awp_ret ?_; (repeat (first | refine then_r ?_ | refine block_r ?_ | refine loop_r ?_)); apply ret_ok (.inr rfl); (focus exact rfl))
              rfl
      · rw [if_neg hl]
        refine ac_intro tabIs _ Try.func22 rfl rfl Try.ntmps22 rfl rfl fun w0 ok0 => ?_
        repeat (first | refine awp_seq ?_ | refine then_n ?_ | refine then_r ?_ | refine then_x ?_ | refine block_n ?_ | refine block_r ?_ | refine block_x ?_ | refine u_y ?_ | refine loop_r ?_ | refine loop_x ?_ | refine awp_region ?_ | refine awpL_nil ?_ | refine awpQL_nil ?_ | refine awp_block ?_ | refine awp_skip ?_ | refine awp_exit ?_ | refine awp_label ?_ | refine u_dT ?_ | refine u_d ?_ | ((first | apply c_l | apply c_q | apply c_lr | apply c_qr); (iterate 2 exact rfl); (focus (first | exact e1)); (iterate 2 exact rfl)) | (apply v_c; (iterate 4 exact rfl); (focus (first | exact e1)); (iterate 2 exact rfl)) | refine u_l ?_ | refine u_o ?_ | refine u_q ?_ | refine u_lr ?_ | refine u_qr ?_ | refine u_ls ?_ | refine u_qs ?_ | refine u_t ?_ | refine u_f ?_ | refine v_s ?_ | refine v_o ?_ | refine v_on ?_ | refine v_og ?_ | refine v_q ?_ | refine v_sr ?_ | refine v_k ?_ | refine m_nil ?_)
        (refine awp_ret ?_; (repeat (first | refine then_r ?_ | refine block_r ?_ | refine loop_r ?_)); apply ret_ok (.inr rfl); (focus exact rfl))
        rfl
    · rw [if_neg hr] at e1 ⊢
      refine ac_intro tabIs _ Try.func22 rfl rfl Try.ntmps22 rfl rfl fun w0 ok0 => ?_
      repeat (first | refine awp_seq ?_ | refine then_n ?_ | refine then_r ?_ | refine then_x ?_ | refine block_n ?_ | refine block_r ?_ | refine block_x ?_ | refine u_y ?_ | refine loop_r ?_ | refine loop_x ?_ | refine awp_region ?_ | refine awpL_nil ?_ | refine awpQL_nil ?_ | refine awp_block ?_ | refine awp_skip ?_ | refine awp_exit ?_ | refine awp_label ?_ | refine u_dT ?_ | refine u_d ?_ | ((first | apply c_l | apply c_q | apply c_lr | apply c_qr); (iterate 2 exact rfl); (focus (first | exact e1)); (iterate 2 exact rfl)) | (apply v_c; (iterate 4 exact rfl); (focus (first | exact e1)); (iterate 2 exact rfl)) | refine u_l ?_ | refine u_o ?_ | refine u_q ?_ | refine u_lr ?_ | refine u_qr ?_ | refine u_ls ?_ | refine u_qs ?_ | refine u_t ?_ | refine u_f ?_ | refine v_s ?_ | refine v_o ?_ | refine v_on ?_ | refine v_og ?_ | refine v_q ?_ | refine v_sr ?_ | refine v_k ?_ | refine m_nil ?_)
      (refine awp_ret ?_; (repeat (first | refine then_r ?_ | refine block_r ?_ | refine loop_r ?_)); apply ret_ok (.inr rfl); (focus exact rfl))
      rfl
  · rw [if_neg hv] at e1 ⊢
    refine ac_intro tabIs _ Try.func22 rfl rfl Try.ntmps22 rfl rfl fun w0 ok0 => ?_
    repeat (first | refine awp_seq ?_ | refine then_n ?_ | refine then_r ?_ | refine then_x ?_ | refine block_n ?_ | refine block_r ?_ | refine block_x ?_ | refine u_y ?_ | refine loop_r ?_ | refine loop_x ?_ | refine awp_region ?_ | refine awpL_nil ?_ | refine awpQL_nil ?_ | refine awp_block ?_ | refine awp_skip ?_ | refine awp_exit ?_ | refine awp_label ?_ | refine u_dT ?_ | refine u_d ?_ | ((first | apply c_l | apply c_q | apply c_lr | apply c_qr); (iterate 2 exact rfl); (focus (first | exact e1)); (iterate 2 exact rfl)) | (apply v_c; (iterate 4 exact rfl); (focus (first | exact e1)); (iterate 2 exact rfl)) | refine u_l ?_ | refine u_o ?_ | refine u_q ?_ | refine u_lr ?_ | refine u_qr ?_ | refine u_ls ?_ | refine u_qs ?_ | refine u_t ?_ | refine u_f ?_ | refine v_s ?_ | refine v_o ?_ | refine v_on ?_ | refine v_og ?_ | refine v_q ?_ | refine v_sr ?_ | refine v_k ?_ | refine m_nil ?_)
    (refine awp_ret ?_; (repeat (first | refine then_r ?_ | refine block_r ?_ | refine loop_r ?_)); apply ret_ok (.inr rfl); (focus exact rfl))
    rfl
end Go.Proofs.Ythcaccakbmooeaa

/-! The program's Candidates, and its law. No condition. -/
namespace Go.Proofs.Ythcaccakbmooeaa
open Go
attribute [local irreducible] awp awpL awpQL awpQ awpM pWalk Qt AC thenQ blockQ loopQ OpTo
set_option linter.unusedVariables false
set_option linter.unusedSimpArgs false
set_option maxHeartbeats 2000000
attribute [local irreducible] HC

theorem impl_Candidates1 {s o : Int} {nx ou ws os : List (List Int)} (h1 : RowsOk nx) (h3 : RowsOk ws) : AC Try.prog 56 [.ptr (mach s o nx ou), .ptr (rows ws), .ptr (rows os)] (.bool (suiteOk nx.length ws && decide (ws.length = os.length))) := by
  have e1 := impl_isSuite (s := s) (o := o) (nx := nx) (ou := ou) (ws := ws) h1.2 h3
  generalize suiteOk nx.length ws = b at *
  cases b with
  | false =>
    refine ac_intro tabIs _ Try.func56 rfl rfl Try.ntmps56 rfl rfl fun w0 ok0 => ?_
    repeat (first | refine awp_seq ?_ | refine then_n ?_ | refine then_r ?_ | refine then_x ?_ | refine block_n ?_ | refine block_r ?_ | refine block_x ?_ | refine u_y ?_ | refine loop_r ?_ | refine loop_x ?_ | refine awp_region ?_ | refine awpL_nil ?_ | refine awpQL_nil ?_ | refine awp_block ?_ | refine awp_skip ?_ | refine awp_exit ?_ | refine awp_label ?_ | refine u_dT ?_ | refine u_d ?_ | ((first | apply c_l | apply c_q | apply c_lr | apply c_qr); (iterate 2 exact rfl); (focus (first | exact e1)); (iterate 2 exact rfl)) | (apply v_c; (iterate 4 exact rfl); (focus (first | exact e1)); (iterate 2 exact rfl)) | refine u_l ?_ | refine u_o ?_ | refine u_q ?_ | refine u_lr ?_ | refine u_qr ?_ | refine u_ls ?_ | refine u_qs ?_ | refine u_t ?_ | refine u_f ?_ | refine v_s ?_ | refine v_o ?_ | refine v_on ?_ | refine v_og ?_ | refine v_q ?_ | refine v_sr ?_ | refine v_k ?_ | refine m_nil ?_)
    (refine awp_ret ?_; (repeat (first | refine then_r ?_ | refine block_r ?_ | refine loop_r ?_)); apply ret_ok (.inr rfl); (focus exact rfl))
    rfl
  | true =>
    refine ac_intro tabIs _ Try.func56 rfl rfl Try.ntmps56 rfl rfl fun w0 ok0 => ?_
    repeat (first | refine awp_seq ?_ | refine then_n ?_ | refine then_r ?_ | refine then_x ?_ | refine block_n ?_ | refine block_r ?_ | refine block_x ?_ | refine u_y ?_ | refine loop_r ?_ | refine loop_x ?_ | refine awp_region ?_ | refine awpL_nil ?_ | refine awpQL_nil ?_ | refine awp_block ?_ | refine awp_skip ?_ | refine awp_exit ?_ | refine awp_label ?_ | refine u_dT ?_ | refine u_d ?_ | ((first | apply c_l | apply c_q | apply c_lr | apply c_qr); (iterate 2 exact rfl); (focus (first | exact e1)); (iterate 2 exact rfl)) | (apply v_c; (iterate 4 exact rfl); (focus (first | exact e1)); (iterate 2 exact rfl)) | refine u_l ?_ | refine u_o ?_ | refine u_q ?_ | refine u_lr ?_ | refine u_qr ?_ | refine u_ls ?_ | refine u_qs ?_ | refine u_t ?_ | refine u_f ?_ | refine v_s ?_ | refine v_o ?_ | refine v_on ?_ | refine v_og ?_ | refine v_q ?_ | refine v_sr ?_ | refine v_k ?_ | refine m_nil ?_)
    (refine awp_ret ?_; (repeat (first | refine then_r ?_ | refine block_r ?_ | refine loop_r ?_)); apply ret_ok (.inr rfl); (focus exact rfl))
    simp [eq_comm]
    exact ⟨fun h => by omega, fun h => by omega⟩

theorem impl_CandidatesH {s o : Int} {nx ou ws os : List (List Int)} (h1 : RowsOk nx) (h2 : RowsOk ou) (h3 : RowsOk ws) (h4 : RowsOk os) :
    HC Try.prog 21 [.d (mach s o nx ou), .d (rows ws), .d (rows os)] [] (.tup [.own 30000, .d (.int .i64 (canD s o nx ou ws os).2)]) [(30000, .arr 2 1 ((canD s o nx ou ws os).1.map (.int .i64)))] := by
  have e1 := impl_code (s := s) (o := o) (g := 56) (cap := [.ptr (mach s o nx ou), .ptr (rows ws), .ptr (rows os)]) h1 h2 fun _ => impl_Candidates1 (s := s) (o := o) (ou := ou) (os := os) h1 h3
  have e1c : canD s o nx ou ws os = if machOk s o nx ou then (if suiteOk nx.length ws && decide (ws.length = os.length) then (canL s o nx ou ws os (mutN s o nx.length).toNat, 0) else ([], 2)) else ([], 1) := by
    unfold canD
    by_cases a : suiteOk nx.length ws = true <;> by_cases b : ws.length = os.length <;> simp [a, b]
  rw [e1c]
  by_cases hv : machOk s o nx ou = true
  · rw [if_pos hv] at e1 ⊢
    by_cases hr : (suiteOk nx.length ws && decide (ws.length = os.length)) = true
    · rw [if_pos hr] at e1 ⊢
      simp only [Bool.and_eq_true, decide_eq_true_eq] at hr
      obtain ⟨hr, hl⟩ := hr
      obtain ⟨q1, q2⟩ := suite_of hr
      have m := mv_of hv
      have hb := mutN_bounds m.s1 m.o1 m.n1.2
      have e2 := impl_Candidates2 m ⟨q1, q2⟩ h4 hl
      have e3 := impl_mutants (ou := ou) m.s1 m.o1 m.n1.2
      have h0 : canL s o nx ou ws os 0 = if ansB nx ou ws os then [-1] else [] := rfl
      cases ha : ansB nx ou ws os with
      | true =>
        rw [ha] at e2 h0
        refine hc_intro tabIs _ Try.func21 rfl rfl Try.ntmps21 rfl rfl rfl ?_ fun w0 ok0 XM XA anc => ?_
        · exact likeIn_nil
        repeat (first | refine v_w (t := 19) ?_ | refine awp_seq ?_ | refine then_n ?_ | refine then_r ?_ | refine then_x ?_ | refine block_n ?_ | refine block_r ?_ | refine block_x ?_ | refine u_y ?_ | refine loop_r ?_ | refine loop_x ?_ | refine awp_region ?_ | refine awpL_nil ?_ | refine awpQL_nil ?_ | refine awp_block ?_ | refine awp_skip ?_ | refine awp_exit ?_ | refine awp_label ?_ | refine u_dT ?_ | refine u_d ?_ | refine u_w (t := 19) ?_ | ((first | apply c_l | apply c_q | apply c_lr | apply c_qr); (iterate 2 exact rfl); (focus (first | exact e1 | exact e2 | exact e3)); (iterate 2 exact rfl)) | (apply v_c; (iterate 4 exact rfl); (focus (first | exact e1 | exact e2 | exact e3)); (iterate 2 exact rfl)) | refine u_l ?_ | refine u_o ?_ | refine u_q ?_ | refine u_lr ?_ | refine u_qr ?_ | refine u_ls ?_ | refine u_qs ?_ | refine u_t ?_ | refine u_f ?_ | refine v_s ?_ | refine v_o ?_ | refine v_on ?_ | refine v_og ?_ | refine v_q ?_ | refine v_sr ?_ | refine v_k ?_ | refine m_nil ?_)
        refine awp_loop (fun k : Nat => (k : Int) ≤ mutN s o nx.length) (fun k => [(3, .d (.ptr (mach s o nx ou))), (9, .d (.fn 57 [.ptr (rows ws), .ptr (rows os)])), (10, .own 19), (27, .d (.int .i64 (mutN s o nx.length))), (28, .d (.int .i64 k))]) (fun k => [(19, .arr 2 1 ((canL s o nx ou ws os k).map (.int .i64)))]) (fun k => (mutN s o nx.length).toNat - k) 0 (by omega) ?_ (by rw [h0]; rfl) ?_
        · ((repeat (first | exact trivial | (refine ⟨?_, ?_⟩; (focus (first | rfl | (simp [lk, argsS, args0]; done) | (simp [lk, argsS, args0]; omega)))))))
        · intro k hk
          have hkl := canL_len s o nx ou ws os k
          have hml : ((canL s o nx ou ws os k).map (D.int .i64)).length ≤ 1000 := by simp; omega
          by_cases hlt : (k : Int) < mutN s o nx.length
          · have f2 := impl_mutant m (k := (k : Int)) (by omega)
            obtain ⟨m', hl'⟩ := mv_mut m (k := (k : Int)) (by omega)
            have f3 := impl_Candidates2 m' (by rw [hl']; exact ⟨q1, q2⟩) h4 hl
            have hstep : canL s o nx ou ws os (k + 1) = canL s o nx ou ws os k ++ if ansB (mutX s o nx ou k).1 (mutX s o nx ou k).2 ws os then [(k : Int)] else [] := rfl
            cases hb2 : ansB (mutX s o nx ou k).1 (mutX s o nx ou k).2 ws os with
            | true =>
              rw [hb2] at f3 hstep
              simp only [if_true] at hstep
              generalize mutX s o nx ou k = X at *
              repeat (first | refine awp_seq ?_ | refine then_n ?_ | refine then_r ?_ | refine then_x ?_ | refine block_n ?_ | refine block_r ?_ | refine block_x ?_ | refine u_y ?_ | refine loop_r ?_ | refine loop_x ?_ | refine awp_region ?_ | refine awpL_nil ?_ | refine awpQL_nil ?_ | refine awp_block ?_ | refine awp_skip ?_ | refine awp_exit ?_ | refine awp_label ?_ | refine u_dT ?_ | refine u_d ?_ | ((first | apply c_l | apply c_q | apply c_lr | apply c_qr); (iterate 2 exact rfl); (focus (first | exact f2 | exact f3)); (iterate 2 exact rfl)) | (apply v_c; (iterate 4 exact rfl); (focus (first | exact f2 | exact f3)); (iterate 2 exact rfl)) | refine u_l ?_ | refine u_o ?_ | refine u_q ?_ | refine u_lr ?_ | refine u_qr ?_ | refine u_ls ?_ | refine u_qs ?_ | refine u_t ?_ | refine u_f ?_ | refine v_s ?_ | refine v_o ?_ | refine v_on ?_ | refine v_og ?_ | refine v_q ?_ | refine v_sr ?_ | refine v_k ?_ | refine m_nil ?_)
              refine loop_n (k + 1) (by omega) ?_ ?_ (by omega)
              · ((repeat (first | exact trivial | (refine ⟨?_, ?_⟩; (focus (first | rfl | (simp [lk, argsS, args0]; done) | (simp [lk, argsS, args0]; omega)))))))
              · rw [hstep, List.map_append]; rfl
            | false =>
              rw [hb2] at f3 hstep
              simp only [Bool.false_eq_true, if_false, List.append_nil] at hstep
              generalize mutX s o nx ou k = X at *
              repeat (first | refine awp_seq ?_ | refine then_n ?_ | refine then_r ?_ | refine then_x ?_ | refine block_n ?_ | refine block_r ?_ | refine block_x ?_ | refine u_y ?_ | refine loop_r ?_ | refine loop_x ?_ | refine awp_region ?_ | refine awpL_nil ?_ | refine awpQL_nil ?_ | refine awp_block ?_ | refine awp_skip ?_ | refine awp_exit ?_ | refine awp_label ?_ | refine u_dT ?_ | refine u_d ?_ | ((first | apply c_l | apply c_q | apply c_lr | apply c_qr); (iterate 2 exact rfl); (focus (first | exact f2 | exact f3)); (iterate 2 exact rfl)) | (apply v_c; (iterate 4 exact rfl); (focus (first | exact f2 | exact f3)); (iterate 2 exact rfl)) | refine u_l ?_ | refine u_o ?_ | refine u_q ?_ | refine u_lr ?_ | refine u_qr ?_ | refine u_ls ?_ | refine u_qs ?_ | refine u_t ?_ | refine u_f ?_ | refine v_s ?_ | refine v_o ?_ | refine v_on ?_ | refine v_og ?_ | refine v_q ?_ | refine v_sr ?_ | refine v_k ?_ | refine m_nil ?_)
              refine loop_n (k + 1) (by omega) ?_ ?_ (by omega)
              · ((repeat (first | exact trivial | (refine ⟨?_, ?_⟩; (focus (first | rfl | (simp [lk, argsS, args0]; done) | (simp [lk, argsS, args0]; omega)))))))
              · rw [hstep]
          · have hk' : k = (mutN s o nx.length).toNat := by omega
            subst hk'
            repeat (first | refine awp_seq ?_ | refine then_n ?_ | refine then_r ?_ | refine then_x ?_ | refine block_n ?_ | refine block_r ?_ | refine block_x ?_ | refine u_y ?_ | refine loop_r ?_ | refine loop_x ?_ | refine awp_region ?_ | refine awpL_nil ?_ | refine awpQL_nil ?_ | refine awp_block ?_ | refine awp_skip ?_ | refine awp_exit ?_ | refine awp_label ?_ | refine u_dT ?_ | refine u_d ?_ | refine u_l ?_ | refine u_o ?_ | refine u_q ?_ | refine u_lr ?_ | refine u_qr ?_ | refine u_ls ?_ | refine u_qs ?_ | refine u_t ?_ | refine u_f ?_ | refine v_s ?_ | refine v_o ?_ | refine v_on ?_ | refine v_og ?_ | refine v_q ?_ | refine v_sr ?_ | refine v_k ?_ | refine m_nil ?_)
            (refine awp_ret ?_; (repeat (first | refine then_r ?_ | refine block_r ?_ | refine loop_r ?_)); refine u_rH [(19, 30000)] ?_ ?_)
            · rfl
            · rfl
      | false =>
        rw [ha] at e2 h0
        refine hc_intro tabIs _ Try.func21 rfl rfl Try.ntmps21 rfl rfl rfl ?_ fun w0 ok0 XM XA anc => ?_
        · exact likeIn_nil
        repeat (first | refine v_w (t := 19) ?_ | refine awp_seq ?_ | refine then_n ?_ | refine then_r ?_ | refine then_x ?_ | refine block_n ?_ | refine block_r ?_ | refine block_x ?_ | refine u_y ?_ | refine loop_r ?_ | refine loop_x ?_ | refine awp_region ?_ | refine awpL_nil ?_ | refine awpQL_nil ?_ | refine awp_block ?_ | refine awp_skip ?_ | refine awp_exit ?_ | refine awp_label ?_ | refine u_dT ?_ | refine u_d ?_ | refine u_w (t := 19) ?_ | ((first | apply c_l | apply c_q | apply c_lr | apply c_qr); (iterate 2 exact rfl); (focus (first | exact e1 | exact e2 | exact e3)); (iterate 2 exact rfl)) | (apply v_c; (iterate 4 exact rfl); (focus (first | exact e1 | exact e2 | exact e3)); (iterate 2 exact rfl)) | refine u_l ?_ | refine u_o ?_ | refine u_q ?_ | refine u_lr ?_ | refine u_qr ?_ | refine u_ls ?_ | refine u_qs ?_ | refine u_t ?_ | refine u_f ?_ | refine v_s ?_ | refine v_o ?_ | refine v_on ?_ | refine v_og ?_ | refine v_q ?_ | refine v_sr ?_ | refine v_k ?_ | refine m_nil ?_)
        refine awp_loop (fun k : Nat => (k : Int) ≤ mutN s o nx.length) (fun k => [(3, .d (.ptr (mach s o nx ou))), (9, .d (.fn 57 [.ptr (rows ws), .ptr (rows os)])), (10, .own 19), (27, .d (.int .i64 (mutN s o nx.length))), (28, .d (.int .i64 k))]) (fun k => [(19, .arr 2 1 ((canL s o nx ou ws os k).map (.int .i64)))]) (fun k => (mutN s o nx.length).toNat - k) 0 (by omega) ?_ (by rw [h0]; rfl) ?_
        · ((repeat (first | exact trivial | (refine ⟨?_, ?_⟩; (focus (first | rfl | (simp [lk, argsS, args0]; done) | (simp [lk, argsS, args0]; omega)))))))
        · intro k hk
          have hkl := canL_len s o nx ou ws os k
          have hml : ((canL s o nx ou ws os k).map (D.int .i64)).length ≤ 1000 := by simp; omega
          by_cases hlt : (k : Int) < mutN s o nx.length
          · have f2 := impl_mutant m (k := (k : Int)) (by omega)
            obtain ⟨m', hl'⟩ := mv_mut m (k := (k : Int)) (by omega)
            have f3 := impl_Candidates2 m' (by rw [hl']; exact ⟨q1, q2⟩) h4 hl
            have hstep : canL s o nx ou ws os (k + 1) = canL s o nx ou ws os k ++ if ansB (mutX s o nx ou k).1 (mutX s o nx ou k).2 ws os then [(k : Int)] else [] := rfl
            cases hb2 : ansB (mutX s o nx ou k).1 (mutX s o nx ou k).2 ws os with
            | true =>
              rw [hb2] at f3 hstep
              simp only [if_true] at hstep
              generalize mutX s o nx ou k = X at *
              repeat (first | refine awp_seq ?_ | refine then_n ?_ | refine then_r ?_ | refine then_x ?_ | refine block_n ?_ | refine block_r ?_ | refine block_x ?_ | refine u_y ?_ | refine loop_r ?_ | refine loop_x ?_ | refine awp_region ?_ | refine awpL_nil ?_ | refine awpQL_nil ?_ | refine awp_block ?_ | refine awp_skip ?_ | refine awp_exit ?_ | refine awp_label ?_ | refine u_dT ?_ | refine u_d ?_ | ((first | apply c_l | apply c_q | apply c_lr | apply c_qr); (iterate 2 exact rfl); (focus (first | exact f2 | exact f3)); (iterate 2 exact rfl)) | (apply v_c; (iterate 4 exact rfl); (focus (first | exact f2 | exact f3)); (iterate 2 exact rfl)) | refine u_l ?_ | refine u_o ?_ | refine u_q ?_ | refine u_lr ?_ | refine u_qr ?_ | refine u_ls ?_ | refine u_qs ?_ | refine u_t ?_ | refine u_f ?_ | refine v_s ?_ | refine v_o ?_ | refine v_on ?_ | refine v_og ?_ | refine v_q ?_ | refine v_sr ?_ | refine v_k ?_ | refine m_nil ?_)
              refine loop_n (k + 1) (by omega) ?_ ?_ (by omega)
              · ((repeat (first | exact trivial | (refine ⟨?_, ?_⟩; (focus (first | rfl | (simp [lk, argsS, args0]; done) | (simp [lk, argsS, args0]; omega)))))))
              · rw [hstep, List.map_append]; rfl
            | false =>
              rw [hb2] at f3 hstep
              simp only [Bool.false_eq_true, if_false, List.append_nil] at hstep
              generalize mutX s o nx ou k = X at *
              repeat (first | refine awp_seq ?_ | refine then_n ?_ | refine then_r ?_ | refine then_x ?_ | refine block_n ?_ | refine block_r ?_ | refine block_x ?_ | refine u_y ?_ | refine loop_r ?_ | refine loop_x ?_ | refine awp_region ?_ | refine awpL_nil ?_ | refine awpQL_nil ?_ | refine awp_block ?_ | refine awp_skip ?_ | refine awp_exit ?_ | refine awp_label ?_ | refine u_dT ?_ | refine u_d ?_ | ((first | apply c_l | apply c_q | apply c_lr | apply c_qr); (iterate 2 exact rfl); (focus (first | exact f2 | exact f3)); (iterate 2 exact rfl)) | (apply v_c; (iterate 4 exact rfl); (focus (first | exact f2 | exact f3)); (iterate 2 exact rfl)) | refine u_l ?_ | refine u_o ?_ | refine u_q ?_ | refine u_lr ?_ | refine u_qr ?_ | refine u_ls ?_ | refine u_qs ?_ | refine u_t ?_ | refine u_f ?_ | refine v_s ?_ | refine v_o ?_ | refine v_on ?_ | refine v_og ?_ | refine v_q ?_ | refine v_sr ?_ | refine v_k ?_ | refine m_nil ?_)
              refine loop_n (k + 1) (by omega) ?_ ?_ (by omega)
              · ((repeat (first | exact trivial | (refine ⟨?_, ?_⟩; (focus (first | rfl | (simp [lk, argsS, args0]; done) | (simp [lk, argsS, args0]; omega)))))))
              · rw [hstep]
          · have hk' : k = (mutN s o nx.length).toNat := by omega
            subst hk'
            repeat (first | refine awp_seq ?_ | refine then_n ?_ | refine then_r ?_ | refine then_x ?_ | refine block_n ?_ | refine block_r ?_ | refine block_x ?_ | refine u_y ?_ | refine loop_r ?_ | refine loop_x ?_ | refine awp_region ?_ | refine awpL_nil ?_ | refine awpQL_nil ?_ | refine awp_block ?_ | refine awp_skip ?_ | refine awp_exit ?_ | refine awp_label ?_ | refine u_dT ?_ | refine u_d ?_ | refine u_l ?_ | refine u_o ?_ | refine u_q ?_ | refine u_lr ?_ | refine u_qr ?_ | refine u_ls ?_ | refine u_qs ?_ | refine u_t ?_ | refine u_f ?_ | refine v_s ?_ | refine v_o ?_ | refine v_on ?_ | refine v_og ?_ | refine v_q ?_ | refine v_sr ?_ | refine v_k ?_ | refine m_nil ?_)
            (refine awp_ret ?_; (repeat (first | refine then_r ?_ | refine block_r ?_ | refine loop_r ?_)); refine u_rH [(19, 30000)] ?_ ?_)
            · rfl
            · rfl
    · rw [if_neg hr] at e1 ⊢
      refine hc_intro tabIs _ Try.func21 rfl rfl Try.ntmps21 rfl rfl rfl ?_ fun w0 ok0 XM XA anc => ?_
      · exact likeIn_nil
      repeat (first | refine awp_seq ?_ | refine then_n ?_ | refine then_r ?_ | refine then_x ?_ | refine block_n ?_ | refine block_r ?_ | refine block_x ?_ | refine u_y ?_ | refine loop_r ?_ | refine loop_x ?_ | refine awp_region ?_ | refine awpL_nil ?_ | refine awpQL_nil ?_ | refine awp_block ?_ | refine awp_skip ?_ | refine awp_exit ?_ | refine awp_label ?_ | refine u_dT ?_ | refine u_d ?_ | ((first | apply c_l | apply c_q | apply c_lr | apply c_qr); (iterate 2 exact rfl); (focus (first | exact e1)); (iterate 2 exact rfl)) | (apply v_c; (iterate 4 exact rfl); (focus (first | exact e1)); (iterate 2 exact rfl)) | refine u_l ?_ | refine u_o ?_ | refine u_q ?_ | refine u_lr ?_ | refine u_qr ?_ | refine u_ls ?_ | refine u_qs ?_ | refine u_t ?_ | refine u_f ?_ | refine v_s ?_ | refine v_o ?_ | refine v_on ?_ | refine v_og ?_ | refine v_q ?_ | refine v_sr ?_ | refine v_k ?_ | refine m_nil ?_)
      refine awp_nilSlot 6 300 2 1 rfl rfl rfl ?_
      (refine awp_ret ?_; (repeat (first | refine then_r ?_ | refine block_r ?_ | refine loop_r ?_)); refine u_rH [(300, 30000)] ?_ ?_)
      · rfl
      · rfl
  · rw [if_neg hv] at e1 ⊢
    refine hc_intro tabIs _ Try.func21 rfl rfl Try.ntmps21 rfl rfl rfl ?_ fun w0 ok0 XM XA anc => ?_
    · exact likeIn_nil
    repeat (first | refine awp_seq ?_ | refine then_n ?_ | refine then_r ?_ | refine then_x ?_ | refine block_n ?_ | refine block_r ?_ | refine block_x ?_ | refine u_y ?_ | refine loop_r ?_ | refine loop_x ?_ | refine awp_region ?_ | refine awpL_nil ?_ | refine awpQL_nil ?_ | refine awp_block ?_ | refine awp_skip ?_ | refine awp_exit ?_ | refine awp_label ?_ | refine u_dT ?_ | refine u_d ?_ | ((first | apply c_l | apply c_q | apply c_lr | apply c_qr); (iterate 2 exact rfl); (focus (first | exact e1)); (iterate 2 exact rfl)) | (apply v_c; (iterate 4 exact rfl); (focus (first | exact e1)); (iterate 2 exact rfl)) | refine u_l ?_ | refine u_o ?_ | refine u_q ?_ | refine u_lr ?_ | refine u_qr ?_ | refine u_ls ?_ | refine u_qs ?_ | refine u_t ?_ | refine u_f ?_ | refine v_s ?_ | refine v_o ?_ | refine v_on ?_ | refine v_og ?_ | refine v_q ?_ | refine v_sr ?_ | refine v_k ?_ | refine m_nil ?_)
    refine awp_nilSlot 6 300 2 1 rfl rfl rfl ?_
    (refine awp_ret ?_; (repeat (first | refine then_r ?_ | refine block_r ?_ | refine loop_r ?_)); refine u_rH [(300, 30000)] ?_ ?_)
    · rfl
    · rfl

theorem canD_len (s o : Int) (nx ou ws os : List (List Int)) : (canD s o nx ou ws os).1.length ≤ 1000 := by
  unfold canD
  split
  · rename_i hv
    have m := mv_of hv
    have hb := mutN_bounds m.s1 m.o1 m.n1.2
    have := canL_len s o nx ou ws os (mutN s o nx.length).toNat
    split
    · split
      · show (canL s o nx ou ws os (mutN s o nx.length).toNat).length ≤ 1000
        omega
      · simp
    · simp
  · simp

end Go.Proofs.Ythcaccakbmooeaa
