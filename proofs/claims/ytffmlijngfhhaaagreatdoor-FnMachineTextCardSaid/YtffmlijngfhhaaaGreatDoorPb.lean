/- Contracts of what tells the first word that a machine fails, in the program. No condition. -/
import Derived.Test.YtffmlijngfhhaaaGreatDoorPa
namespace Go.Proofs.YtffmlijngfhhaaaGreatDoor
open Go
attribute [local irreducible] awp awpL awpQL awpQ awpM pWalk Qt AC thenQ blockQ loopQ OpTo
set_option linter.unusedVariables false
set_option linter.unusedSimpArgs false
set_option maxHeartbeats 2000000

end Go.Proofs.YtffmlijngfhhaaaGreatDoor

/-! Contracts of what tells the first word that a machine fails, in the reference. No condition. -/
namespace Go.Proofs.YtffmlijngfhhaaaGreatDoor
open Go
attribute [local irreducible] awp awpL awpQL awpQ awpM pWalk Qt AC thenQ blockQ loopQ OpTo
set_option linter.unusedVariables false
set_option linter.unusedSimpArgs false
set_option maxHeartbeats 2000000

theorem spec_l06Run {s o q0 : Int} {nx ou : List (List Int)} {w : List Int} (m : MV s o nx ou) (hq0 : 0 ≤ q0 ∧ q0 < s) (hwl : w.length ≤ 400) (hwa : ∀ l ∈ w, 0 ≤ l ∧ l < nx.length) :
    AC Tryz.prog 67 [.ptr (mach s o nx ou), .int .i64 q0, ints w] (.tup [ints (runO nx ou q0 w), .int .i64 (runS nx q0 w)]) := by
  have hle2 : (List.map (D.int IntKind.i64) w).length = w.length := by simp
  unfold mach
  refine ac_intro tabIs _ Tryz.func67 rfl rfl Tryz.ntmps67 rfl rfl fun w0 ok0 he0 => ?_
  repeat (first | refine v_w (t := 10) ?_ | refine awp_seq ?_ | refine then_n ?_ | refine then_r ?_ | refine then_x ?_ | refine block_n ?_ | refine block_r ?_ | refine block_x ?_ | refine u_y ?_ | refine loop_r ?_ | refine loop_x ?_ | refine awp_region ?_ | refine awpL_nil ?_ | refine awpQL_nil ?_ | refine awp_block ?_ | refine awp_skip ?_ | refine awp_exit ?_ | refine awp_label ?_ | refine u_dT ?_ | refine u_d ?_ | refine u_w (t := 10) ?_ | refine u_l ?_ | refine u_o ?_ | refine u_q ?_ | refine u_lr ?_ | refine u_qr ?_ | refine u_ls ?_ | refine u_qs ?_ | refine u_t ?_ | refine u_f ?_ | refine v_s ?_ | refine v_o ?_ | refine v_on ?_ | refine v_og ?_ | refine v_q ?_ | refine v_sr ?_ | refine v_k ?_ | refine m_nil ?_)
  refine awp_loop (fun p : Nat × Int × List Int => p.1 ≤ w.length ∧ (0 ≤ p.2.1 ∧ p.2.1 < s) ∧ p.2.2.length = p.1 ∧ p.2.2 ++ runO nx ou p.2.1 (w.drop p.1) = runO nx ou q0 w ∧ runS nx p.2.1 (w.drop p.1) = runS nx q0 w)
    (fun p => [(0, .d (.ptr (.agg [.int .i64 s, .int .i64 o, rows nx, rows ou]))), (1, .d (.int .i64 p.2.1)), (2, .d (ints w)), (8, .own 10), (9, .d (.int .i64 p.1))]) (fun p => [(10, .arr 2 1 (p.2.2.map (.int .i64)))]) (fun p => w.length - p.1) (0, q0, []) ⟨by simp, hq0, rfl, rfl, rfl⟩ ?_ rfl ?_
  · ((repeat (first | exact trivial | (refine ⟨?_, ?_⟩; (focus (first | rfl | (simp [lk, argsS, args0]; done) | (simp [lk, argsS, args0]; omega)))))))
  · rintro ⟨k, a, acc⟩ ⟨hk, ha, hac, hg, hs⟩
    dsimp only at hk ha hac hg hs
    by_cases hlt2 : k < w.length
    · have hy := el_int hlt2
      have hl := hwa _ (List.getElem_mem hlt2)
      have hlo : 0 ≤ w[k] ∧ w[k] < ou.length := by have := m.eq; omega
      have r1 := el_row2 hl
      have r3 := el_row2 hlo
      have l1 := tbl_row m.nx hl
      have l3 := tbl_row m.ou hlo
      have q1 : (List.map (D.int .i64) (row nx w[k]))[a.toNat]? = some (.int .i64 (at2 nx w[k] a)) := el_int2 (ns := row nx w[k]) (q := a) (by omega)
      have q3 : (List.map (D.int .i64) (row ou w[k]))[a.toNat]? = some (.int .i64 (at2 ou w[k] a)) := el_int2 (ns := row ou w[k]) (q := a) (by omega)
      have p1 := tbl_at m.nx hl ha
      have hlen : (List.map (D.int .i64) acc).length = k := by simp [hac]
      rw [List.drop_eq_getElem_cons hlt2] at hg hs
      simp only [runO] at hg
      simp only [runS] at hs
      repeat (first | refine awp_seq ?_ | refine then_n ?_ | refine then_r ?_ | refine then_x ?_ | refine block_n ?_ | refine block_r ?_ | refine block_x ?_ | refine u_y ?_ | refine loop_r ?_ | refine loop_x ?_ | refine awp_region ?_ | refine awpL_nil ?_ | refine awpQL_nil ?_ | refine awp_block ?_ | refine awp_skip ?_ | refine awp_exit ?_ | refine awp_label ?_ | refine u_dT ?_ | refine u_d ?_ | refine u_l ?_ | refine u_o ?_ | refine u_q ?_ | refine u_lr ?_ | refine u_qr ?_ | refine u_ls ?_ | refine u_qs ?_ | refine u_t ?_ | refine u_f ?_ | refine v_s ?_ | refine v_o ?_ | refine v_on ?_ | refine v_og ?_ | refine v_q ?_ | refine v_sr ?_ | refine v_k ?_ | refine m_nil ?_)
      refine loop_n (k + 1, at2 nx w[k] a, acc ++ [at2 ou w[k] a]) ⟨by omega, p1, by simp [hac], by simpa using hg, hs⟩ ?_ (by simp [killH, keepH, memB]) (by dsimp only; omega)
      ((repeat (first | exact trivial | (refine ⟨?_, ?_⟩; (focus (first | rfl | (simp [lk, argsS, args0]; done) | (simp [lk, argsS, args0]; omega)))))))
    · have : k = w.length := by omega
      subst this
      simp only [List.drop_length, runO, runS, List.append_nil] at hg hs
      subst hg hs
      repeat (first | refine awp_seq ?_ | refine then_n ?_ | refine then_r ?_ | refine then_x ?_ | refine block_n ?_ | refine block_r ?_ | refine block_x ?_ | refine u_y ?_ | refine loop_r ?_ | refine loop_x ?_ | refine awp_region ?_ | refine awpL_nil ?_ | refine awpQL_nil ?_ | refine awp_block ?_ | refine awp_skip ?_ | refine awp_exit ?_ | refine awp_label ?_ | refine u_dT ?_ | refine u_d ?_ | refine u_l ?_ | refine u_o ?_ | refine u_q ?_ | refine u_lr ?_ | refine u_qr ?_ | refine u_ls ?_ | refine u_qs ?_ | refine u_t ?_ | refine u_f ?_ | refine v_s ?_ | refine v_o ?_ | refine v_on ?_ | refine v_og ?_ | refine v_q ?_ | refine v_sr ?_ | refine v_k ?_ | refine m_nil ?_)
      (refine awp_ret ?_; (repeat (first | refine then_r ?_ | refine block_r ?_ | refine loop_r ?_)); apply ret_ok (.inr rfl); (focus exact rfl))
      rfl

end Go.Proofs.YtffmlijngfhhaaaGreatDoor

/-! Contracts of FirstFailing and Passes, in the program and in the reference. No condition. -/
namespace Go.Proofs.YtffmlijngfhhaaaGreatDoor
open Go
attribute [local irreducible] awp awpL awpQL awpQ awpM pWalk Qt AC thenQ blockQ loopQ OpTo
set_option linter.unusedVariables false
set_option linter.unusedSimpArgs false
set_option maxHeartbeats 2000000

end Go.Proofs.YtffmlijngfhhaaaGreatDoor
