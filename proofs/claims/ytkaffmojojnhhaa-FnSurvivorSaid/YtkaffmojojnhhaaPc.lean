/- Contracts of what tells the first word that a machine fails, in the reference. No condition. -/
import Derived.Test.YtkaffmojojnhhaaPb
namespace Go.Proofs.Ytkaffmojojnhhaa
open Go
attribute [local irreducible] awp awpL awpQL awpQ awpM pWalk Qt AC thenQ blockQ loopQ OpTo
set_option linter.unusedVariables false
set_option linter.unusedSimpArgs false
set_option maxHeartbeats 2000000

theorem spec_l06Run {s o q0 : Int} {nx ou : List (List Int)} {w : List Int} (m : MV s o nx ou) (hq0 : 0 ≤ q0 ∧ q0 < s) (hwl : w.length ≤ 400) (hwa : ∀ l ∈ w, 0 ≤ l ∧ l < nx.length) :
    AC Try.prog 123 [.ptr (mach s o nx ou), .int .i64 q0, ints w] (.tup [ints (runO nx ou q0 w), .int .i64 (runS nx q0 w)]) := by
  have hle2 : (List.map (D.int IntKind.i64) w).length = w.length := by simp
  unfold mach
  refine ac_intro tabIs _ Try.func123 rfl rfl Try.ntmps123 rfl rfl fun w0 ok0 => ?_
  repeat (first | refine v_w (t := 10) ?_ | refine awp_seq ?_ | refine then_n ?_ | refine then_r ?_ | refine then_x ?_ | refine block_n ?_ | refine block_r ?_ | refine block_x ?_ | refine u_y ?_ | refine loop_r ?_ | refine loop_x ?_ | refine awp_region ?_ | refine awpL_nil ?_ | refine awpQL_nil ?_ | refine awp_block ?_ | refine awp_skip ?_ | refine awp_exit ?_ | refine awp_label ?_ | refine u_dT ?_ | refine u_d ?_ | refine u_w (t := 10) ?_ | refine u_l ?_ | refine u_o ?_ | refine u_q ?_ | refine u_lr ?_ | refine u_qr ?_ | refine u_ls ?_ | refine u_qs ?_ | refine u_t ?_ | refine u_f ?_ | refine v_s ?_ | refine v_o ?_ | refine v_on ?_ | refine v_og ?_ | refine v_q ?_ | refine v_sr ?_ | refine v_k ?_ | refine m_nil ?_)
  refine awp_loop (fun p : Nat × Int × List Int => p.1 ≤ w.length ∧ (0 ≤ p.2.1 ∧ p.2.1 < s) ∧ p.2.2.length = p.1 ∧ p.2.2 ++ runO nx ou p.2.1 (w.drop p.1) = runO nx ou q0 w ∧ runS nx p.2.1 (w.drop p.1) = runS nx q0 w)
    (fun p => [(0, .d (.ptr (.agg [.int .i64 s, .int .i64 o, rows nx, rows ou]))), (1, .d (.int .i64 p.2.1)), (2, .d (ints w)), (8, .own 10), (9, .d (.int .i64 p.1))]) (fun p => [(10, .arr 2 1 (p.2.2.map (.int .i64)))]) (fun p => w.length - p.1) (0, q0, []) ⟨by simp, hq0, rfl, rfl, rfl⟩ ?_ rfl ?_
  · ((repeat (first | exact trivial | (refine ⟨?_, ?_⟩; (focus (first | rfl | (simp [lk, argsS, args0]; done) | (simp [lk, argsS, args0]; omega)))))))
  · rintro ⟨k, a, acc⟩ ⟨hk, ha, hac, hg, hs⟩
    dsimp only at hk ha hac hg hs
    by_cases hlt2 : k < w.length
    · have hy := el_int hlt2
      have hl := hwa _ (List.getElem_mem hlt2)
      have hlo : 0 ≤ w[k] ∧ w[k] < ou.length := by have := m.eq; omega
      have r1 := el_row2 hl
      have r3 := el_row2 hlo
      have l1 := tbl_row m.nx hl
      have l3 := tbl_row m.ou hlo
      have q1 : (List.map (D.int .i64) (row nx w[k]))[a.toNat]? = some (.int .i64 (at2 nx w[k] a)) := el_int2 (ns := row nx w[k]) (q := a) (by omega)
      have q3 : (List.map (D.int .i64) (row ou w[k]))[a.toNat]? = some (.int .i64 (at2 ou w[k] a)) := el_int2 (ns := row ou w[k]) (q := a) (by omega)
      have p1 := tbl_at m.nx hl ha
      have hlen : (List.map (D.int .i64) acc).length = k := by simp [hac]
      rw [List.drop_eq_getElem_cons hlt2] at hg hs
      simp only [runO] at hg
      simp only [runS] at hs
      repeat (first | refine awp_seq ?_ | refine then_n ?_ | refine then_r ?_ | refine then_x ?_ | refine block_n ?_ | refine block_r ?_ | refine block_x ?_ | refine u_y ?_ | refine loop_r ?_ | refine loop_x ?_ | refine awp_region ?_ | refine awpL_nil ?_ | refine awpQL_nil ?_ | refine awp_block ?_ | refine awp_skip ?_ | refine awp_exit ?_ | refine awp_label ?_ | refine u_dT ?_ | refine u_d ?_ | refine u_l ?_ | refine u_o ?_ | refine u_q ?_ | refine u_lr ?_ | refine u_qr ?_ | refine u_ls ?_ | refine u_qs ?_ | refine u_t ?_ | refine u_f ?_ | refine v_s ?_ | refine v_o ?_ | refine v_on ?_ | refine v_og ?_ | refine v_q ?_ | refine v_sr ?_ | refine v_k ?_ | refine m_nil ?_)
      refine loop_n (k + 1, at2 nx w[k] a, acc ++ [at2 ou w[k] a]) ⟨by omega, p1, by simp [hac], by simpa using hg, hs⟩ ?_ (by simp [killH, keepH, memB]) (by dsimp only; omega)
      ((repeat (first | exact trivial | (refine ⟨?_, ?_⟩; (focus (first | rfl | (simp [lk, argsS, args0]; done) | (simp [lk, argsS, args0]; omega)))))))
    · have : k = w.length := by omega
      subst this
      simp only [List.drop_length, runO, runS, List.append_nil] at hg hs
      subst hg hs
      repeat (first | refine awp_seq ?_ | refine then_n ?_ | refine then_r ?_ | refine then_x ?_ | refine block_n ?_ | refine block_r ?_ | refine block_x ?_ | refine u_y ?_ | refine loop_r ?_ | refine loop_x ?_ | refine awp_region ?_ | refine awpL_nil ?_ | refine awpQL_nil ?_ | refine awp_block ?_ | refine awp_skip ?_ | refine awp_exit ?_ | refine awp_label ?_ | refine u_dT ?_ | refine u_d ?_ | refine u_l ?_ | refine u_o ?_ | refine u_q ?_ | refine u_lr ?_ | refine u_qr ?_ | refine u_ls ?_ | refine u_qs ?_ | refine u_t ?_ | refine u_f ?_ | refine v_s ?_ | refine v_o ?_ | refine v_on ?_ | refine v_og ?_ | refine v_q ?_ | refine v_sr ?_ | refine v_k ?_ | refine m_nil ?_)
      (refine awp_ret ?_; (repeat (first | refine then_r ?_ | refine block_r ?_ | refine loop_r ?_)); apply ret_ok (.inr rfl); (focus exact rfl))
      rfl

theorem diffL_drop {a b : List Int} {k : Nat} (ha : k < a.length) (hb : k < b.length) : diffL k (a.drop k) (b.drop k) = if a[k] = b[k] then diffL (k + 1) (a.drop (k + 1)) (b.drop (k + 1)) else k := by
  rw [List.drop_eq_getElem_cons ha, List.drop_eq_getElem_cons hb, diffL]

theorem spec_l07Fails {s o s' o' : Int} {nx ou nx' ou' : List (List Int)} {w : List Int} (m : MV s o nx ou) (n : MV s' o' nx' ou') (he : nx'.length = nx.length) (hwl : w.length ≤ 400) (hwa : ∀ l ∈ w, 0 ≤ l ∧ l < nx.length) :
    AC Try.prog 89 [.ptr (mach s o nx ou), .ptr (mach s' o' nx' ou'), ints w] (.int .i64 (failW nx ou nx' ou' 0 0 0 w)) := by
  have e1 := spec_l06Run (q0 := 0) m (by have := m.s1; omega) hwl hwa
  have e2 := spec_l06Run (q0 := 0) n (by have := n.s1; omega) hwl (fun l hl => by have := hwa l hl; omega)
  have k1 := runO_length nx ou w 0
  have k2 := runO_length nx' ou' w 0
  have hd := diffL_run nx ou nx' ou' w 0 0 0
  generalize runO nx ou 0 w = a at *
  generalize runO nx' ou' 0 w = b at *
  have hle2 : (List.map (D.int IntKind.i64) w).length = w.length := by simp
  refine ac_intro tabIs _ Try.func89 rfl rfl Try.ntmps89 rfl rfl fun w0 ok0 => ?_
  repeat (first | refine awp_seq ?_ | refine then_n ?_ | refine then_r ?_ | refine then_x ?_ | refine block_n ?_ | refine block_r ?_ | refine block_x ?_ | refine u_y ?_ | refine loop_r ?_ | refine loop_x ?_ | refine awp_region ?_ | refine awpL_nil ?_ | refine awpQL_nil ?_ | refine awp_block ?_ | refine awp_skip ?_ | refine awp_exit ?_ | refine awp_label ?_ | refine u_dT ?_ | refine u_d ?_ | ((first | apply c_l | apply c_q | apply c_lr | apply c_qr); (iterate 2 exact rfl); (focus (first | exact e1 | exact e2)); (iterate 2 exact rfl)) | (apply v_c; (iterate 4 exact rfl); (focus (first | exact e1 | exact e2)); (iterate 2 exact rfl)) | refine u_l ?_ | refine u_o ?_ | refine u_q ?_ | refine u_lr ?_ | refine u_qr ?_ | refine u_ls ?_ | refine u_qs ?_ | refine u_t ?_ | refine u_f ?_ | refine v_s ?_ | refine v_o ?_ | refine v_on ?_ | refine v_og ?_ | refine v_q ?_ | refine v_sr ?_ | refine v_k ?_ | refine m_nil ?_)
  refine awp_loop (fun k : Nat => k ≤ w.length ∧ diffL k (a.drop k) (b.drop k) = failW nx ou nx' ou' 0 0 0 w)
    (fun k => [(2, .d (ints w)), (7, .d (ints a)), (9, .d (ints b)), (11, .d (.int .i64 k))]) (fun _ => []) (fun k => w.length - k) 0 ⟨by simp, hd⟩ ?_ rfl ?_
  · ((repeat (first | exact trivial | (refine ⟨?_, ?_⟩; (focus (first | rfl | (simp [lk, argsS, args0]; done) | (simp [lk, argsS, args0]; omega)))))))
  · rintro k ⟨hk, hf⟩
    by_cases hlt : k < w.length
    · have ha : k < a.length := by omega
      have hb : k < b.length := by omega
      have x1 := el_int ha
      have x2 := el_int hb
      rw [diffL_drop ha hb] at hf
      by_cases hc : a[k] = b[k]
      · rw [if_pos hc] at hf
        repeat (first | refine awp_seq ?_ | refine then_n ?_ | refine then_r ?_ | refine then_x ?_ | refine block_n ?_ | refine block_r ?_ | refine block_x ?_ | refine u_y ?_ | refine loop_r ?_ | refine loop_x ?_ | refine awp_region ?_ | refine awpL_nil ?_ | refine awpQL_nil ?_ | refine awp_block ?_ | refine awp_skip ?_ | refine awp_exit ?_ | refine awp_label ?_ | refine u_dT ?_ | refine u_d ?_ | refine u_l ?_ | refine u_o ?_ | refine u_q ?_ | refine u_lr ?_ | refine u_qr ?_ | refine u_ls ?_ | refine u_qs ?_ | refine u_t ?_ | refine u_f ?_ | refine v_s ?_ | refine v_o ?_ | refine v_on ?_ | refine v_og ?_ | refine v_q ?_ | refine v_sr ?_ | refine v_k ?_ | refine m_nil ?_)
        refine loop_n (k + 1) ⟨by omega, hf⟩ ?_ rfl (by omega)
        ((repeat (first | exact trivial | (refine ⟨?_, ?_⟩; (focus (first | rfl | (simp [lk, argsS, args0]; done) | (simp [lk, argsS, args0]; omega)))))))
      · rw [if_neg hc] at hf
        repeat (first | refine awp_seq ?_ | refine then_n ?_ | refine then_r ?_ | refine then_x ?_ | refine block_n ?_ | refine block_r ?_ | refine block_x ?_ | refine u_y ?_ | refine loop_r ?_ | refine loop_x ?_ | refine awp_region ?_ | refine awpL_nil ?_ | refine awpQL_nil ?_ | refine awp_block ?_ | refine awp_skip ?_ | refine awp_exit ?_ | refine awp_label ?_ | refine u_dT ?_ | refine u_d ?_ | refine u_l ?_ | refine u_o ?_ | refine u_q ?_ | refine u_lr ?_ | refine u_qr ?_ | refine u_ls ?_ | refine u_qs ?_ | refine u_t ?_ | refine u_f ?_ | refine v_s ?_ | refine v_o ?_ | refine v_on ?_ | refine v_og ?_ | refine v_q ?_ | refine v_sr ?_ | refine v_k ?_ | refine m_nil ?_)
        (refine awp_ret ?_; (repeat (first | refine then_r ?_ | refine block_r ?_ | refine loop_r ?_)); apply ret_ok (.inr rfl); (focus exact rfl))
        rw [← hf]
    · have : k = w.length := by omega
      rw [List.drop_eq_nil_of_le (by omega : a.length ≤ k), diffL.eq_def] at hf
      simp only at hf
      repeat (first | refine awp_seq ?_ | refine then_n ?_ | refine then_r ?_ | refine then_x ?_ | refine block_n ?_ | refine block_r ?_ | refine block_x ?_ | refine u_y ?_ | refine loop_r ?_ | refine loop_x ?_ | refine awp_region ?_ | refine awpL_nil ?_ | refine awpQL_nil ?_ | refine awp_block ?_ | refine awp_skip ?_ | refine awp_exit ?_ | refine awp_label ?_ | refine u_dT ?_ | refine u_d ?_ | refine u_l ?_ | refine u_o ?_ | refine u_q ?_ | refine u_lr ?_ | refine u_qr ?_ | refine u_ls ?_ | refine u_qs ?_ | refine u_t ?_ | refine u_f ?_ | refine v_s ?_ | refine v_o ?_ | refine v_on ?_ | refine v_og ?_ | refine v_q ?_ | refine v_sr ?_ | refine v_k ?_ | refine m_nil ?_)
      (refine awp_ret ?_; (repeat (first | refine then_r ?_ | refine block_r ?_ | refine loop_r ?_)); apply ret_ok (.inr rfl); (focus exact rfl))
      rw [← hf]

end Go.Proofs.Ytkaffmojojnhhaa

/-! Contracts of FirstFailing and Passes, in the program and in the reference. No condition. -/
namespace Go.Proofs.Ytkaffmojojnhhaa
open Go
attribute [local irreducible] awp awpL awpQL awpQ awpM pWalk Qt AC thenQ blockQ loopQ OpTo
set_option linter.unusedVariables false
set_option linter.unusedSimpArgs false
set_option maxHeartbeats 2000000

/-- What the reference tells. -/
def failR (p : Int × Int) : Int × Int := if p.1 < 0 then (-1, 0) else p

theorem failS_step (nx ou nx' ou' : List (List Int)) (ws : List (List Int)) (i : Nat) (h : i < ws.length) : failS nx ou nx' ou' i (ws.drop i) = if failW nx ou nx' ou' 0 0 0 ws[i] < 0 then failS nx ou nx' ou' (i + 1) (ws.drop (i + 1)) else (i, failW nx ou nx' ou' 0 0 0 ws[i]) := by
  rw [List.drop_eq_getElem_cons h, failS]

theorem spec_l07Failing {s o s' o' : Int} {nx ou nx' ou' ws : List (List Int)} (m : MV s o nx ou) (n : MV s' o' nx' ou') (he : nx'.length = nx.length) (hws : ws.length ≤ 400) (hw : ∀ w ∈ ws, w.length ≤ 400 ∧ ∀ l ∈ w, 0 ≤ l ∧ l < nx.length) :
    AC Try.prog 74 [.ptr (mach s o nx ou), .ptr (mach s' o' nx' ou'), rows ws] (.tup [.int .i64 (failR (failS nx ou nx' ou' 0 ws)).1, .int .i64 (failR (failS nx ou nx' ou' 0 ws)).2]) := by
  have hle : (List.map ints ws).length = ws.length := by simp
  refine ac_intro tabIs _ Try.func74 rfl rfl Try.ntmps74 rfl rfl fun w0 ok0 => ?_
  repeat (first | refine awp_seq ?_ | refine then_n ?_ | refine then_r ?_ | refine then_x ?_ | refine block_n ?_ | refine block_r ?_ | refine block_x ?_ | refine u_y ?_ | refine loop_r ?_ | refine loop_x ?_ | refine awp_region ?_ | refine awpL_nil ?_ | refine awpQL_nil ?_ | refine awp_block ?_ | refine awp_skip ?_ | refine awp_exit ?_ | refine awp_label ?_ | refine u_dT ?_ | refine u_d ?_ | refine u_l ?_ | refine u_o ?_ | refine u_q ?_ | refine u_lr ?_ | refine u_qr ?_ | refine u_ls ?_ | refine u_qs ?_ | refine u_t ?_ | refine u_f ?_ | refine v_s ?_ | refine v_o ?_ | refine v_on ?_ | refine v_og ?_ | refine v_q ?_ | refine v_sr ?_ | refine v_k ?_ | refine m_nil ?_)
  refine awp_loop (fun i : Nat => i ≤ ws.length ∧ failS nx ou nx' ou' i (ws.drop i) = failS nx ou nx' ou' 0 ws)
    (fun i => [(0, .d (.ptr (mach s o nx ou))), (1, .d (.ptr (mach s' o' nx' ou'))), (2, .d (rows ws)), (8, .d (.int .i64 i))]) (fun _ => []) (fun i => ws.length - i) 0 (by simp) ?_ rfl ?_
  · ((repeat (first | exact trivial | (refine ⟨?_, ?_⟩; (focus (first | rfl | (simp [lk, argsS, args0]; done) | (simp [lk, argsS, args0]; omega)))))))
  · rintro i ⟨hi, hf⟩
    by_cases hlt : i < ws.length
    · have hx := el_row hlt
      obtain ⟨hwl, hwa⟩ := hw _ (List.getElem_mem hlt)
      have e := spec_l07Fails m n he hwl hwa
      rw [failS_step _ _ _ _ _ _ hlt] at hf
      by_cases hc : failW nx ou nx' ou' 0 0 0 ws[i] < 0
      · rw [if_pos hc] at hf
        repeat (first | refine awp_seq ?_ | refine then_n ?_ | refine then_r ?_ | refine then_x ?_ | refine block_n ?_ | refine block_r ?_ | refine block_x ?_ | refine u_y ?_ | refine loop_r ?_ | refine loop_x ?_ | refine awp_region ?_ | refine awpL_nil ?_ | refine awpQL_nil ?_ | refine awp_block ?_ | refine awp_skip ?_ | refine awp_exit ?_ | refine awp_label ?_ | refine u_dT ?_ | refine u_d ?_ | ((first | apply c_l | apply c_q | apply c_lr | apply c_qr); (iterate 2 exact rfl); (focus (first | exact e)); (iterate 2 exact rfl)) | (apply v_c; (iterate 4 exact rfl); (focus (first | exact e)); (iterate 2 exact rfl)) | refine u_l ?_ | refine u_o ?_ | refine u_q ?_ | refine u_lr ?_ | refine u_qr ?_ | refine u_ls ?_ | refine u_qs ?_ | refine u_t ?_ | refine u_f ?_ | refine v_s ?_ | refine v_o ?_ | refine v_on ?_ | refine v_og ?_ | refine v_q ?_ | refine v_sr ?_ | refine v_k ?_ | refine m_nil ?_)
        refine loop_n (i + 1) ⟨by omega, hf⟩ ?_ rfl (by omega)
        ((repeat (first | exact trivial | (refine ⟨?_, ?_⟩; (focus (first | rfl | (simp [lk, argsS, args0]; done) | (simp [lk, argsS, args0]; omega)))))))
      · rw [if_neg hc] at hf
        have hc' : 0 ≤ failW nx ou nx' ou' 0 0 0 ws[i] := by omega
        repeat (first | refine awp_seq ?_ | refine then_n ?_ | refine then_r ?_ | refine then_x ?_ | refine block_n ?_ | refine block_r ?_ | refine block_x ?_ | refine u_y ?_ | refine loop_r ?_ | refine loop_x ?_ | refine awp_region ?_ | refine awpL_nil ?_ | refine awpQL_nil ?_ | refine awp_block ?_ | refine awp_skip ?_ | refine awp_exit ?_ | refine awp_label ?_ | refine u_dT ?_ | refine u_d ?_ | ((first | apply c_l | apply c_q | apply c_lr | apply c_qr); (iterate 2 exact rfl); (focus (first | exact e)); (iterate 2 exact rfl)) | (apply v_c; (iterate 4 exact rfl); (focus (first | exact e)); (iterate 2 exact rfl)) | refine u_l ?_ | refine u_o ?_ | refine u_q ?_ | refine u_lr ?_ | refine u_qr ?_ | refine u_ls ?_ | refine u_qs ?_ | refine u_t ?_ | refine u_f ?_ | refine v_s ?_ | refine v_o ?_ | refine v_on ?_ | refine v_og ?_ | refine v_q ?_ | refine v_sr ?_ | refine v_k ?_ | refine m_nil ?_)
        (refine awp_ret ?_; (repeat (first | refine then_r ?_ | refine block_r ?_ | refine loop_r ?_)); apply ret_ok (.inr rfl); (focus exact rfl))
        rw [← hf]
        simp only [failR]
        rw [if_neg (by omega)]
    · have : i = ws.length := by omega
      subst this
      simp only [List.drop_length, failS] at hf
      repeat (first | refine awp_seq ?_ | refine then_n ?_ | refine then_r ?_ | refine then_x ?_ | refine block_n ?_ | refine block_r ?_ | refine block_x ?_ | refine u_y ?_ | refine loop_r ?_ | refine loop_x ?_ | refine awp_region ?_ | refine awpL_nil ?_ | refine awpQL_nil ?_ | refine awp_block ?_ | refine awp_skip ?_ | refine awp_exit ?_ | refine awp_label ?_ | refine u_dT ?_ | refine u_d ?_ | refine u_l ?_ | refine u_o ?_ | refine u_q ?_ | refine u_lr ?_ | refine u_qr ?_ | refine u_ls ?_ | refine u_qs ?_ | refine u_t ?_ | refine u_f ?_ | refine v_s ?_ | refine v_o ?_ | refine v_on ?_ | refine v_og ?_ | refine v_q ?_ | refine v_sr ?_ | refine v_k ?_ | refine m_nil ?_)
      (refine awp_ret ?_; (repeat (first | refine then_r ?_ | refine block_r ?_ | refine loop_r ?_)); apply ret_ok (.inr rfl); (focus exact rfl))
      rw [← hf]
      rfl

end Go.Proofs.Ytkaffmojojnhhaa
