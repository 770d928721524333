/- Contracts of what tells the first word that a machine fails, in the program. No condition. -/
import Derived.Test.YtfemhnmggobhjaaGreatPa
namespace Go.Proofs.YtfemhnmggobhjaaGreat
open Go
attribute [local irreducible] awp awpL awpQL awpQ awpM pWalk Qt AC thenQ blockQ loopQ OpTo
set_option linter.unusedVariables false
set_option linter.unusedSimpArgs false
set_option maxHeartbeats 2000000
theorem impl_alike {s o s' o' : Int} {nx ou nx' ou' : List (List Int)} : AC Tryz.prog 81 [mach s o nx ou, mach s' o' nx' ou'] (.bool (decide (o = o') && decide ((nx.length : Int) = nx'.length))) := by
  have hle1 : (List.map ints nx).length = nx.length := by simp
  have hle2 : (List.map ints nx').length = nx'.length := by simp
  unfold mach
  refine ac_intro tabIs _ Tryz.func81 rfl rfl Tryz.ntmps81 rfl rfl fun w0 ok0 he0 => ?_
  repeat' (first | refine awp_seq ?_ | refine then_n ?_ | refine then_r ?_ | refine then_x ?_ | refine block_n ?_ | refine block_r ?_ | refine block_x ?_ | refine u_y ?_ | refine loop_r ?_ | refine loop_x ?_ | refine awp_region ?_ | refine awpL_nil ?_ | refine awpQL_nil ?_ | refine awp_block ?_ | refine awp_skip ?_ | refine awp_exit ?_ | refine awp_label ?_ | refine u_dT ?_ | refine u_d ?_ | refine u_l ?_ | refine u_o ?_ | refine u_q ?_ | refine u_lr ?_ | refine u_qr ?_ | refine u_ls ?_ | refine u_qs ?_ | refine u_t ?_ | refine u_f ?_ | refine v_s ?_ | refine v_o ?_ | refine v_on ?_ | refine v_og ?_ | refine v_q ?_ | refine v_sr ?_ | refine v_k ?_ | refine m_nil ?_ | ((first | refine u_sl ?_ ?_ | refine u_sq ?_ ?_) <;> (intro hb; try (simp at hb; done))) | (refine u_c ?_ ?_ <;> (intro hc; try (simp at hc; done))) | refine awp_ret ?_ | refine u_r ?_ | refine u_rC ?_)
  all_goals simp_all
theorem failW_cons {nx ou nx' ou' : List (List Int)} {w : List Int} {k : Nat} (h : k < w.length) (s t : Int) : failW nx ou nx' ou' s t k (w.drop k) = if at2 ou w[k] s = at2 ou' w[k] t then failW nx ou nx' ou' (at2 nx w[k] s) (at2 nx' w[k] t) (k + 1) (w.drop (k + 1)) else k := by
  rw [List.drop_eq_getElem_cons h]
  rfl
theorem impl_failing {s o s' o' : Int} {nx ou nx' ou' ws : List (List Int)} (m : MV s o nx ou) (n : MV s' o' nx' ou') (he : nx'.length = nx.length) (hws : ws.length <= 400) (hw : ∀ w ∈ ws, w.length <= 400 /\ ∀ l ∈ w, 0 <= l /\ l < nx.length) :
    AC Tryz.prog 123 [mach s o nx ou, mach s' o' nx' ou', rows ws] (.tup [.int .i64 (failS nx ou nx' ou' 0 ws).1, .int .i64 (failS nx ou nx' ou' 0 ws).2]) := by
  have hle : (List.map ints ws).length = ws.length := by simp
  unfold mach
  refine ac_intro tabIs _ Tryz.func123 rfl rfl Tryz.ntmps123 rfl rfl fun w0 ok0 he0 => ?_
  repeat (first | refine zc ?_ | refine zv ?_)
  refine awp_loop (fun i : Nat => i <= ws.length /\ failS nx ou nx' ou' i (ws.drop i) = failS nx ou nx' ou' 0 ws)
    (fun i => [(3, .d (.ptr (.agg [.int .i64 s, .int .i64 o, rows nx, rows ou]))), (4, .d (.ptr (.agg [.int .i64 s', .int .i64 o', rows nx', rows ou']))), (14, .d (rows ws)), (15, .d (.int .i64 ws.length)), (16, .d (.int .i64 i))]) (fun _ => []) (fun i => ws.length - i) 0 (by simp) ?_ rfl ?_
  . exact zs
  . rintro i ⟨hi, hf⟩
    by_cases hlt : i < ws.length
    . have hx := el_row hlt
      obtain ⟨hwl, hwa⟩ := hw _ (List.getElem_mem hlt)
      have hle2 : (List.map (D.int IntKind.i64) ws[i]).length = ws[i].length := by simp
      rw [List.drop_eq_getElem_cons hlt, failS] at hf
      repeat (first | refine zc ?_ | refine zv ?_)
      refine awp_loop (fun p : Nat × Int × Int => p.1 <= ws[i].length /\ (0 <= p.2.1 /\ p.2.1 < s) /\ (0 <= p.2.2 /\ p.2.2 < s') /\ failW nx ou nx' ou' p.2.1 p.2.2 p.1 (ws[i].drop p.1) = failW nx ou nx' ou' 0 0 0 ws[i])
        (fun p => [(3, .d (.ptr (.agg [.int .i64 s, .int .i64 o, rows nx, rows ou]))), (4, .d (.ptr (.agg [.int .i64 s', .int .i64 o', rows nx', rows ou']))), (14, .d (rows ws)), (15, .d (.int .i64 ws.length)), (16, .d (.int .i64 i)), (8, .d (.int .i64 i)),
          (10, .d (.int .i64 p.2.1)), (11, .d (.int .i64 p.2.2)), (21, .d (ints ws[i])), (22, .d (.int .i64 ws[i].length)), (23, .d (.int .i64 p.1))]) (fun _ => []) (fun p => ws[i].length - p.1) (0, 0, 0) ⟨by simp, by have := m.s1; simp; omega, by have := n.s1; simp; omega, rfl⟩ ?_ rfl ?_
      . exact zs
      . rintro ⟨k, a, b⟩ ⟨hk, ha, hb, hg⟩
        dsimp only at hk ha hb hg
        by_cases hlt2 : k < ws[i].length
        . have hy := el_int hlt2
          have hl := hwa _ (List.getElem_mem hlt2)
          have hl' : 0 <= ws[i][k] /\ ws[i][k] < nx'.length := by omega
          have hlo : 0 <= ws[i][k] /\ ws[i][k] < ou.length := by have := m.eq; omega
          have hlo' : 0 <= ws[i][k] /\ ws[i][k] < ou'.length := by have := n.eq; omega
          have r1 := el_row2 hl
          have r2 := el_row2 hl'
          have r3 := el_row2 hlo
          have r4 := el_row2 hlo'
          have l1 := tbl_row m.nx hl
          have l2 := tbl_row n.nx hl'
          have l3 := tbl_row m.ou hlo
          have l4 := tbl_row n.ou hlo'
          have q1 : (List.map (D.int .i64) (row nx ws[i][k]))[a.toNat]? = some (.int .i64 (at2 nx ws[i][k] a)) := el_int2 (ns := row nx ws[i][k]) (q := a) (by omega)
          have q2 : (List.map (D.int .i64) (row nx' ws[i][k]))[b.toNat]? = some (.int .i64 (at2 nx' ws[i][k] b)) := el_int2 (ns := row nx' ws[i][k]) (q := b) (by omega)
          have q3 : (List.map (D.int .i64) (row ou ws[i][k]))[a.toNat]? = some (.int .i64 (at2 ou ws[i][k] a)) := el_int2 (ns := row ou ws[i][k]) (q := a) (by omega)
          have q4 : (List.map (D.int .i64) (row ou' ws[i][k]))[b.toNat]? = some (.int .i64 (at2 ou' ws[i][k] b)) := el_int2 (ns := row ou' ws[i][k]) (q := b) (by omega)
          have p1 := tbl_at m.nx hl ha
          have p2 := tbl_at n.nx hl' hb
          rw [failW_cons hlt2] at hg
          by_cases hc : at2 ou ws[i][k] a = at2 ou' ws[i][k] b
          . have hc' : (row ou ws[i][k]).getD a.toNat 0 = (row ou' ws[i][k]).getD b.toNat 0 := hc
            rw [if_pos hc] at hg
            repeat (first | refine zc ?_ | refine zv ?_)
            refine loop_n (k + 1, at2 nx ws[i][k] a, at2 nx' ws[i][k] b) ⟨by omega, p1, p2, hg⟩ ?_ rfl (by dsimp only; omega)
            exact zs
          . have hc' : ¬ (row ou ws[i][k]).getD a.toNat 0 = (row ou' ws[i][k]).getD b.toNat 0 := hc
            rw [if_neg hc] at hg
            repeat (first | refine zc ?_ | refine zv ?_)
            refine zt ?_
            rw [<- hg, if_neg (by omega)] at hf
            rw [<- hf]
        . have : k = ws[i].length := by omega
          subst this
          simp only [List.drop_length, failW] at hg
          rw [<- hg, if_pos (by omega)] at hf
          repeat (first | refine zc ?_ | refine zv ?_)
          refine loop_n (i + 1) ⟨by omega, hf⟩ ?_ rfl (by omega)
          exact zs
    . have : i = ws.length := by omega
      subst this
      simp only [List.drop_length, failS] at hf
      repeat (first | refine zc ?_ | refine zv ?_)
      refine zt ?_
      rw [<- hf]
end Go.Proofs.YtfemhnmggobhjaaGreat
namespace Go.Proofs.YtfemhnmggobhjaaGreat
open Go
attribute [local irreducible] awp awpL awpQL awpQ awpM pWalk Qt AC thenQ blockQ loopQ OpTo
set_option linter.unusedVariables false
set_option linter.unusedSimpArgs false
set_option maxHeartbeats 2000000
theorem spec_l06Run {s o q0 : Int} {nx ou : List (List Int)} {w : List Int} (m : MV s o nx ou) (hq0 : 0 <= q0 /\ q0 < s) (hwl : w.length <= 400) (hwa : ∀ l ∈ w, 0 <= l /\ l < nx.length) :
    AC Tryz.prog 96 [.ptr (mach s o nx ou), .int .i64 q0, ints w] (.tup [ints (runO nx ou q0 w), .int .i64 (runS nx q0 w)]) := by
  have hle2 : (List.map (D.int IntKind.i64) w).length = w.length := by simp
  unfold mach
  refine ac_intro tabIs _ Tryz.func96 rfl rfl Tryz.ntmps96 rfl rfl fun w0 ok0 he0 => ?_
  repeat (first | refine v_w (t := 10) ?_ | refine zc ?_ | refine u_w (t := 10) ?_ | refine zv ?_)
  refine awp_loop (fun p : Nat × Int × List Int => p.1 <= w.length /\ (0 <= p.2.1 /\ p.2.1 < s) /\ p.2.2.length = p.1 /\ p.2.2 ++ runO nx ou p.2.1 (w.drop p.1) = runO nx ou q0 w /\ runS nx p.2.1 (w.drop p.1) = runS nx q0 w)
    (fun p => [(0, .d (.ptr (.agg [.int .i64 s, .int .i64 o, rows nx, rows ou]))), (1, .d (.int .i64 p.2.1)), (2, .d (ints w)), (8, .own 10), (9, .d (.int .i64 p.1))]) (fun p => [(10, .arr 2 1 (p.2.2.map (.int .i64)))]) (fun p => w.length - p.1) (0, q0, []) ⟨by simp, hq0, rfl, rfl, rfl⟩ ?_ rfl ?_
  . exact zs
  . rintro ⟨k, a, acc⟩ ⟨hk, ha, hac, hg, hs⟩
    dsimp only at hk ha hac hg hs
    by_cases hlt2 : k < w.length
    . have hy := el_int hlt2
      have hl := hwa _ (List.getElem_mem hlt2)
      have hlo : 0 <= w[k] /\ w[k] < ou.length := by have := m.eq; omega
      have r1 := el_row2 hl
      have r3 := el_row2 hlo
      have l1 := tbl_row m.nx hl
      have l3 := tbl_row m.ou hlo
      have q1 : (List.map (D.int .i64) (row nx w[k]))[a.toNat]? = some (.int .i64 (at2 nx w[k] a)) := el_int2 (ns := row nx w[k]) (q := a) (by omega)
      have q3 : (List.map (D.int .i64) (row ou w[k]))[a.toNat]? = some (.int .i64 (at2 ou w[k] a)) := el_int2 (ns := row ou w[k]) (q := a) (by omega)
      have p1 := tbl_at m.nx hl ha
      have hlen : (List.map (D.int .i64) acc).length = k := by simp [hac]
      rw [List.drop_eq_getElem_cons hlt2] at hg hs
      simp only [runO] at hg
      simp only [runS] at hs
      repeat (first | refine zc ?_ | refine zv ?_)
      refine loop_n (k + 1, at2 nx w[k] a, acc ++ [at2 ou w[k] a]) ⟨by omega, p1, by simp [hac], by simpa using hg, hs⟩ ?_ (by simp [killH, keepH, memB]) (by dsimp only; omega)
      exact zs
    . have : k = w.length := by omega
      subst this
      simp only [List.drop_length, runO, runS, List.append_nil] at hg hs
      subst hg hs
      repeat (first | refine zc ?_ | refine zv ?_)
      refine zt ?_
      rfl
end Go.Proofs.YtfemhnmggobhjaaGreat
namespace Go.Proofs.YtfemhnmggobhjaaGreat
open Go
attribute [local irreducible] awp awpL awpQL awpQ awpM pWalk Qt AC thenQ blockQ loopQ OpTo
set_option linter.unusedVariables false
set_option linter.unusedSimpArgs false
set_option maxHeartbeats 2000000
end Go.Proofs.YtfemhnmggobhjaaGreat
