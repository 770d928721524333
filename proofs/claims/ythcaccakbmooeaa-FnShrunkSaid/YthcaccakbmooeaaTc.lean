/- Which words stay in a suite: the program. No condition. -/
import Derived.Test.YthcaccakbmooeaaTb
import Derived.Test.YthcaccakbmooeaaFy
namespace Go.Proofs.Ythcaccakbmooeaa
open Go
attribute [local irreducible] awp awpL awpQL awpQ awpM pWalk Qt AC thenQ blockQ loopQ OpTo
set_option linter.unusedVariables false
set_option linter.unusedSimpArgs false
set_option maxHeartbeats 2000000
attribute [local irreducible] HC
open Go.RowKit (Below)

/-! ### Counts -/

/-- How many kept words kill a mutant. -/
def cK (K : Nat → Bool) (F : Nat → Nat → Bool) (k : Nat) : Nat → Nat
  | 0 => 0
  | n + 1 => cK K F k n + if K n && F n k then 1 else 0
theorem cK_le {K : Nat → Bool} {F : Nat → Nat → Bool} {k : Nat} : ∀ n, cK K F k n ≤ n
  | 0 => Nat.le_refl _
  | n + 1 => by
    have := cK_le (K := K) (F := F) (k := k) n
    unfold cK
    split <;> omega
theorem cK_congr {K K' : Nat → Bool} {F : Nat → Nat → Bool} {k : Nat} : ∀ {n}, (∀ i, i < n → K i = K' i) → cK K F k n = cK K' F k n
  | 0, _ => rfl
  | n + 1, h => by
    unfold cK
    rw [cK_congr fun i hi => h i (by omega), h n (by omega)]
/-- A kept word less. -/
theorem cK_drop {K : Nat → Bool} {F : Nat → Nat → Bool} {k a : Nat} (hK : K a = true) : ∀ {n}, a < n → cK K F k n = cK (fun i => if i = a then false else K i) F k n + if F a k then 1 else 0
  | n + 1, h => by
    by_cases e : a = n
    · subst e
      have : cK K F k a = cK (fun i => if i = a then false else K i) F k a := cK_congr fun i hi => by rw [if_neg (by omega)]
      show cK K F k a + (if K a && F a k then 1 else 0) = cK _ F k a + (if (if a = a then false else K a) && F a k then 1 else 0) + _
      rw [this, hK]
      simp
    · have ih := cK_drop (F := F) (k := k) hK (n := n) (by omega)
      show cK K F k n + (if K n && F n k then 1 else 0) = cK _ F k n + (if (if n = a then false else K n) && F n k then 1 else 0) + _
      rw [ih, if_neg (fun h : n = a => e h.symm)]
      omega
theorem cK_zero {K : Nat → Bool} {F : Nat → Nat → Bool} {k : Nat} : ∀ {n}, cK K F k n = 0 ↔ ((List.range n).all fun i => !K i || !F i k) = true
  | 0 => by simp [cK]
  | n + 1 => by
    have ih := cK_zero (K := K) (F := F) (k := k) (n := n)
    have hR : ((List.range (n + 1)).all fun i => !K i || !F i k) = (((List.range n).all fun i => !K i || !F i k) && (!K n || !F n k)) := by
      rw [List.range_succ, List.all_append]; simp
    rw [hR]
    show cK K F k n + (if K n && F n k then 1 else 0) = 0 ↔ _
    generalize ((List.range n).all fun i => !K i || !F i k) = b at *
    generalize cK K F k n = c at *
    cases K n <;> cases F n k <;> simp [ih]
/-- A word is the only one just if it is alone. -/
theorem cK_alone {K : Nat → Bool} {F : Nat → Nat → Bool} {k a n : Nat} (hK : K a = true) (ha : a < n) (hF : F a k = true) : decide (((cK K F k n : Nat) : Int) = 1) = aloB F K a k n := by
  have h1 := cK_drop (F := F) (k := k) hK ha
  rw [hF, if_pos rfl] at h1
  have h2 := cK_zero (K := fun i => if i = a then false else K i) (F := F) (k := k) (n := n)
  unfold aloB
  rw [hF, Bool.true_and, Bool.eq_iff_iff, decide_eq_true_eq]
  have h3 : ((List.range n).all fun i => !(if i = a then false else K i) || !F i k) = (List.range n).all fun i => othB F K a k i := by
    congr 1
    funext i
    unfold othB
    by_cases e : i = a <;> simp [e]
  rw [← h3, ← h2]
  omega
theorem kp_old {N M : Nat} {F : Nat → Nat → Bool} : ∀ {j i : Nat}, i + j < N → kp N M F j i = true
  | 0, _, _ => rfl
  | j + 1, i, h => by
    unfold kp
    rw [if_neg (by omega)]
    exact kp_old (by omega)

theorem impl_ShrinkSuite1 {s o : Int} {nx ou ws : List (List Int)} (h1 : RowsOk nx) (h3 : RowsOk ws) : AC Try.prog 61 [.ptr (mach s o nx ou), .ptr (rows ws)] (.bool (suiteOk nx.length ws)) := by
  have e1 := impl_isSuite (s := s) (o := o) (nx := nx) (ou := ou) (ws := ws) h1.2 h3
  refine ac_intro tabIs _ Try.func61 rfl rfl Try.ntmps61 rfl rfl fun w0 ok0 => ?_
  repeat (first | refine awp_seq ?_ | refine then_n ?_ | refine then_r ?_ | refine then_x ?_ | refine block_n ?_ | refine block_r ?_ | refine block_x ?_ | refine u_y ?_ | refine loop_r ?_ | refine loop_x ?_ | refine awp_region ?_ | refine awpL_nil ?_ | refine awpQL_nil ?_ | refine awp_block ?_ | refine awp_skip ?_ | refine awp_exit ?_ | refine awp_label ?_ | refine u_dT ?_ | refine u_d ?_ | ((first | apply c_l | apply c_q | apply c_lr | apply c_qr); (iterate 2 exact rfl); (focus (first | exact e1)); (iterate 2 exact rfl)) | (apply v_c; (iterate 4 exact rfl); (focus (first | exact e1)); (iterate 2 exact rfl)) | refine u_l ?_ | refine u_o ?_ | refine u_q ?_ | refine u_lr ?_ | refine u_qr ?_ | refine u_ls ?_ | refine u_qs ?_ | refine u_t ?_ | refine u_f ?_ | refine v_s ?_ | refine v_o ?_ | refine v_on ?_ | refine v_og ?_ | refine v_q ?_ | refine v_sr ?_ | refine v_k ?_ | refine m_nil ?_)
  (refine awp_ret ?_; (repeat (first | refine then_r ?_ | refine block_r ?_ | refine loop_r ?_)); apply ret_ok (.inr rfl); (focus exact rfl))
  rfl

theorem impl_ShrinkSuiteH {s o : Int} {nx ou ws : List (List Int)} (h1 : RowsOk nx) (h2 : RowsOk ou) (h3 : RowsOk ws) :
    HC Try.prog 23 [.d (mach s o nx ou), .d (rows ws)] [] (.tup [.own 30000, .d (.int .i64 (shD s o nx ou ws).2)]) [(30000, .rows 31 2 1 (rws (shD s o nx ou ws).1) none)] := by
  have e1 := impl_code (s := s) (o := o) (g := 61) (cap := [.ptr (mach s o nx ou), .ptr (rows ws)]) h1 h2 fun _ => impl_ShrinkSuite1 h1 h3
  unfold shD
  by_cases hv : machOk s o nx ou = true
  · rw [if_pos hv] at e1 ⊢
    by_cases hr : suiteOk nx.length ws = true
    · rw [if_pos hr] at e1 ⊢
      obtain ⟨q1, q2⟩ := suite_of hr
      have m := mv_of hv
      have hb := mutN_bounds m.s1 m.o1 m.n1.2
      have e2 := impl_kills m ⟨q1, q2⟩
      have e3 := impl_mutants (ou := ou) m.s1 m.o1 m.n1.2
      have hle : (List.map ints ws).length = ws.length := by simp
      obtain ⟨M, hM⟩ : ∃ M : Nat, mutN s o nx.length = M := ⟨(mutN s o nx.length).toNat, by omega⟩
      have hMt : (mutN s o nx.length).toNat = M := by omega
      unfold shF
      rw [hMt] at e2 ⊢
      rw [hM] at e3
      have hMb : M ≤ 1000 := by omega
      have hclo : ∀ w ∈ ws, HC Try.prog 63 [.d (ints w)] [] (.own 30000) [(30000, .arr 2 1 (w.map (.int .i64)))] := fun w hw => impl_cloneH (by have := (q2 w hw).1; omega)
      generalize kW s o nx ou ws = F at *
      have hrow : ∀ i, i < ws.length → ((tabB ws.length M F).map D.lst)[(i : Int).toNat]? = some (.lst (rowB M (F i))) := fun i h => by
        have := tabB_get (M := M) (F := F) h
        rw [List.getElem?_map, this]
        rfl
      have hz : List.replicate ((M : Nat) : Int).toNat (D.int .i64 0) = (fnL M fun k => ((cK (fun _ => true) F k 0 : Nat) : Int)).map (.int .i64) := by
        rw [Int.toNat_natCast]
        unfold fnL
        rw [List.map_map]
        exact (List.eq_replicate_iff.2 ⟨by simp, fun b hb => by simp at hb; obtain ⟨_, _, rfl⟩ := hb; rfl⟩).symm
      have hfl : ∀ G, ((fnL M G).map (D.int .i64)).length = M := fun G => by simp
      have hrl : ∀ G, (rowB ws.length G).length = ws.length := fun G => by simp
      refine hc_intro tabIs _ Try.func23 rfl rfl Try.ntmps23 rfl rfl rfl ?_ fun w0 ok0 XM XA anc => ?_
      · exact likeIn_nil
      repeat (first | refine awp_seq ?_ | refine then_n ?_ | refine then_r ?_ | refine then_x ?_ | refine block_n ?_ | refine block_r ?_ | refine block_x ?_ | refine u_y ?_ | refine loop_r ?_ | refine loop_x ?_ | refine awp_region ?_ | refine awpL_nil ?_ | refine awpQL_nil ?_ | refine awp_block ?_ | refine awp_skip ?_ | refine awp_exit ?_ | refine awp_label ?_ | ((first | apply c_l | apply c_q | apply c_lr | apply c_qr); (iterate 2 exact rfl); (focus (first | exact e1)); (iterate 2 exact rfl)) | (apply v_c; (iterate 4 exact rfl); (focus (first | exact e1)); (iterate 2 exact rfl)) | refine u_l ?_ | refine u_o ?_ | refine u_q ?_ | refine u_lr ?_ | refine u_qr ?_ | refine u_ls ?_ | refine u_qs ?_ | refine u_t ?_ | refine u_f ?_ | refine v_s ?_ | refine v_o ?_ | refine v_on ?_ | refine v_og ?_ | refine v_q ?_ | refine v_sr ?_ | refine v_k ?_ | refine m_nil ?_)
      refine u_m [(5, [34])] (.tk [34] [0, 1, 2, 3, 4, 6] (.tk [] [5, 7] .done)) ?_
      repeat (first | refine awp_seq ?_ | refine then_n ?_ | refine then_r ?_ | refine then_x ?_ | refine block_n ?_ | refine block_r ?_ | refine block_x ?_ | refine u_y ?_ | refine loop_r ?_ | refine loop_x ?_ | refine awp_region ?_ | refine awpL_nil ?_ | refine awpQL_nil ?_ | refine awp_block ?_ | refine awp_skip ?_ | refine awp_exit ?_ | refine awp_label ?_ | refine u_dT ?_ | refine u_d ?_ | ((first | apply c_l | apply c_q | apply c_lr | apply c_qr); (iterate 2 exact rfl); (focus (first | exact e2 | exact e3)); (iterate 2 exact rfl)) | (apply v_c; (iterate 4 exact rfl); (focus (first | exact e2 | exact e3)); (iterate 2 exact rfl)) | refine u_l ?_ | refine u_o ?_ | refine u_q ?_ | refine u_lr ?_ | refine u_qr ?_ | refine u_ls ?_ | refine u_qs ?_ | refine u_t ?_ | refine u_f ?_ | refine v_s ?_ | refine v_o ?_ | refine v_on ?_ | refine v_og ?_ | refine v_q ?_ | refine v_sr ?_ | refine v_k ?_ | refine m_nil ?_)
      refine awp_loop (fun i : Nat => i ≤ ws.length) (fun i => [(3, .d (.ptr (rows ws))), (7, .d (.lst ((tabB ws.length M F).map D.lst))), (8, .own 34), (35, .d (.lst ((tabB ws.length M F).map D.lst))), (36, .d (.int .i64 ((tabB ws.length M F).map D.lst).length)), (37, .d (.int .i64 i))]) (fun i => [(34, .arr 3 1 ((fnL M fun k => ((cK (fun _ => true) F k i : Nat) : Int)).map (.int .i64)))]) (fun i => ws.length - i) 0 (by omega) ?_ ?_ ?_
      · ((repeat (first | exact trivial | (refine ⟨?_, ?_⟩; (focus (first | rfl | (simp [lk, argsS, args0]; done) | (simp [lk, argsS, args0]; omega)))))))
      · rw [← hz]; rfl
      · intro i hi
        by_cases hlt : i < ws.length
        · have hri := hrow i hlt
          have hsc : ∀ k, cK (fun _ => true) F k (i + 1) = cK (fun _ => true) F k i + if F i k then 1 else 0 := fun k => by
            show cK (fun _ => true) F k i + (if true && F i k then 1 else 0) = _
            simp
          have hi0 : (fnL M fun k => ((cK (fun _ => true) F k i : Nat) : Int)) = fnL M fun g => if g < 0 then ((cK (fun _ => true) F g (i + 1) : Nat) : Int) else ((cK (fun _ => true) F g i : Nat) : Int) := fnL_congr fun g _ => by simp
          rw [hi0]
          repeat (first | refine awp_seq ?_ | refine then_n ?_ | refine then_r ?_ | refine then_x ?_ | refine block_n ?_ | refine block_r ?_ | refine block_x ?_ | refine u_y ?_ | refine loop_r ?_ | refine loop_x ?_ | refine awp_region ?_ | refine awpL_nil ?_ | refine awpQL_nil ?_ | refine awp_block ?_ | refine awp_skip ?_ | refine awp_exit ?_ | refine awp_label ?_ | refine u_dT ?_ | refine u_d ?_ | refine u_l ?_ | refine u_o ?_ | refine u_q ?_ | refine u_lr ?_ | refine u_qr ?_ | refine u_ls ?_ | refine u_qs ?_ | refine u_t ?_ | refine u_f ?_ | refine v_s ?_ | refine v_o ?_ | refine v_on ?_ | refine v_og ?_ | refine v_q ?_ | refine v_sr ?_ | refine v_k ?_ | refine m_nil ?_)
          refine awp_loop (fun k : Nat => k ≤ M) (fun k => [(3, .d (.ptr (rows ws))), (7, .d (.lst ((tabB ws.length M F).map D.lst))), (8, .own 34), (35, .d (.lst ((tabB ws.length M F).map D.lst))), (36, .d (.int .i64 ((tabB ws.length M F).map D.lst).length)), (37, .d (.int .i64 i)), (41, .d (.lst (rowB M (F i)))), (42, .d (.int .i64 (rowB M (F i)).length)), (43, .d (.int .i64 k))])
            (fun k => [(34, .arr 3 1 ((fnL M fun g => if g < k then ((cK (fun _ => true) F g (i + 1) : Nat) : Int) else ((cK (fun _ => true) F g i : Nat) : Int)).map (.int .i64)))]) (fun k => M - k) 0 (by omega) ?_ rfl ?_
          · ((repeat (first | exact trivial | (refine ⟨?_, ?_⟩; (focus (first | rfl | (simp [lk, argsS, args0]; done) | (simp [lk, argsS, args0]; omega)))))))
          · intro k hk
            have hl2 := hfl fun g => if g < k then ((cK (fun _ => true) F g (i + 1) : Nat) : Int) else ((cK (fun _ => true) F g i : Nat) : Int)
            by_cases hkl : k < M
            · have hel := rowB_get (F := F i) hkl
              have hck := cK_le (K := fun _ => true) (F := F) (k := k) i
              have hmv := fnL_el (N := M) (F := fun g => if g < k then ((cK (fun _ => true) F g (i + 1) : Nat) : Int) else ((cK (fun _ => true) F g i : Nat) : Int)) hkl
              simp only [Nat.lt_irrefl, if_false] at hmv
              cases hF : F i k
              · rw [hF] at hel
                have hcg := fnL_congr (N := M) (F := fun g => if g < k then ((cK (fun _ => true) F g (i + 1) : Nat) : Int) else ((cK (fun _ => true) F g i : Nat) : Int)) (G := fun g => if g < k + 1 then ((cK (fun _ => true) F g (i + 1) : Nat) : Int) else ((cK (fun _ => true) F g i : Nat) : Int)) fun g _ => by
                  by_cases e : g = k
                  · subst e; simp [hsc, hF]
                  · by_cases h : g < k
                    · rw [if_pos h, if_pos (by omega)]
                    · rw [if_neg h, if_neg (by omega)]
                repeat (first | refine awp_seq ?_ | refine then_n ?_ | refine then_r ?_ | refine then_x ?_ | refine block_n ?_ | refine block_r ?_ | refine block_x ?_ | refine u_y ?_ | refine loop_r ?_ | refine loop_x ?_ | refine awp_region ?_ | refine awpL_nil ?_ | refine awpQL_nil ?_ | refine awp_block ?_ | refine awp_skip ?_ | refine awp_exit ?_ | refine awp_label ?_ | refine u_dT ?_ | refine u_d ?_ | refine u_l ?_ | refine u_o ?_ | refine u_q ?_ | refine u_lr ?_ | refine u_qr ?_ | refine u_ls ?_ | refine u_qs ?_ | refine u_t ?_ | refine u_f ?_ | refine v_s ?_ | refine v_o ?_ | refine v_on ?_ | refine v_og ?_ | refine v_q ?_ | refine v_sr ?_ | refine v_k ?_ | refine m_nil ?_)
                refine loop_n (k + 1) (by omega) ?_ ?_ (by omega)
                · ((repeat (first | exact trivial | (refine ⟨?_, ?_⟩; (focus (first | rfl | (simp [lk, argsS, args0]; done) | (simp [lk, argsS, args0]; omega)))))))
                · rw [hcg]
              · rw [hF] at hel
                have hst := fnL_set (N := M) (k := k) (F := fun g => if g < k then ((cK (fun _ => true) F g (i + 1) : Nat) : Int) else ((cK (fun _ => true) F g i : Nat) : Int)) (v := ((cK (fun _ => true) F k i : Nat) : Int) + 1)
                have hcg := fnL_congr (N := M) (F := fun g => if g = k then ((cK (fun _ => true) F k i : Nat) : Int) + 1 else if g < k then ((cK (fun _ => true) F g (i + 1) : Nat) : Int) else ((cK (fun _ => true) F g i : Nat) : Int)) (G := fun g => if g < k + 1 then ((cK (fun _ => true) F g (i + 1) : Nat) : Int) else ((cK (fun _ => true) F g i : Nat) : Int)) fun g _ => by
                  by_cases e : g = k
                  · subst e; simp [hsc, hF]
                  · rw [if_neg e]
                    by_cases h : g < k
                    · rw [if_pos h, if_pos (by omega)]
                    · rw [if_neg h, if_neg (by omega)]
                rw [hcg] at hst
                repeat (first | refine awp_seq ?_ | refine then_n ?_ | refine then_r ?_ | refine then_x ?_ | refine block_n ?_ | refine block_r ?_ | refine block_x ?_ | refine u_y ?_ | refine loop_r ?_ | refine loop_x ?_ | refine awp_region ?_ | refine awpL_nil ?_ | refine awpQL_nil ?_ | refine awp_block ?_ | refine awp_skip ?_ | refine awp_exit ?_ | refine awp_label ?_ | refine u_dT ?_ | refine u_d ?_ | refine u_l ?_ | refine u_o ?_ | refine u_q ?_ | refine u_lr ?_ | refine u_qr ?_ | refine u_ls ?_ | refine u_qs ?_ | refine u_t ?_ | refine u_f ?_ | refine v_s ?_ | refine v_o ?_ | refine v_on ?_ | refine v_og ?_ | refine v_q ?_ | refine v_sr ?_ | refine v_k ?_ | refine m_nil ?_)
                refine loop_n (k + 1) (by omega) ?_ ?_ (by omega)
                · ((repeat (first | exact trivial | (refine ⟨?_, ?_⟩; (focus (first | rfl | (simp [lk, argsS, args0]; done) | (simp [lk, argsS, args0]; omega)))))))
                · rw [← hst]; rfl
            · have : k = M := by omega
              subst this
              have hcg := fnL_congr (N := k) (F := fun g => if g < k then ((cK (fun _ => true) F g (i + 1) : Nat) : Int) else ((cK (fun _ => true) F g i : Nat) : Int)) (G := fun g => ((cK (fun _ => true) F g (i + 1) : Nat) : Int)) fun g hg => if_pos hg
              rw [hcg]
              repeat (first | refine awp_seq ?_ | refine then_n ?_ | refine then_r ?_ | refine then_x ?_ | refine block_n ?_ | refine block_r ?_ | refine block_x ?_ | refine u_y ?_ | refine loop_r ?_ | refine loop_x ?_ | refine awp_region ?_ | refine awpL_nil ?_ | refine awpQL_nil ?_ | refine awp_block ?_ | refine awp_skip ?_ | refine awp_exit ?_ | refine awp_label ?_ | refine u_dT ?_ | refine u_d ?_ | refine u_l ?_ | refine u_o ?_ | refine u_q ?_ | refine u_lr ?_ | refine u_qr ?_ | refine u_ls ?_ | refine u_qs ?_ | refine u_t ?_ | refine u_f ?_ | refine v_s ?_ | refine v_o ?_ | refine v_on ?_ | refine v_og ?_ | refine v_q ?_ | refine v_sr ?_ | refine v_k ?_ | refine m_nil ?_)
              refine loop_n (i + 1) (by omega) ?_ rfl (by omega)
              ((repeat (first | exact trivial | (refine ⟨?_, ?_⟩; (focus (first | rfl | (simp [lk, argsS, args0]; done) | (simp [lk, argsS, args0]; omega)))))))
        · have : i = ws.length := by omega
          subst this
          repeat (first | refine v_w (t := 57) ?_ | refine awp_seq ?_ | refine then_n ?_ | refine then_r ?_ | refine then_x ?_ | refine block_n ?_ | refine block_r ?_ | refine block_x ?_ | refine u_y ?_ | refine loop_r ?_ | refine loop_x ?_ | refine awp_region ?_ | refine awpL_nil ?_ | refine awpQL_nil ?_ | refine awp_block ?_ | refine awp_skip ?_ | refine awp_exit ?_ | refine awp_label ?_ | refine u_dT ?_ | refine u_d ?_ | refine u_w (t := 57) ?_ | refine u_l ?_ | refine u_o ?_ | refine u_q ?_ | refine u_lr ?_ | refine u_qr ?_ | refine u_ls ?_ | refine u_qs ?_ | refine u_t ?_ | refine u_f ?_ | refine v_s ?_ | refine v_o ?_ | refine v_on ?_ | refine v_og ?_ | refine v_q ?_ | refine v_sr ?_ | refine v_k ?_ | refine m_nil ?_)
          refine awp_loop (fun i : Nat => i ≤ ws.length) (fun i => [(3, .d (.ptr (rows ws))), (7, .d (.lst ((tabB ws.length M F).map D.lst))), (8, .own 34), (13, .own 57), (59, .d (.int .i64 (List.map ints ws).length)), (60, .d (.int .i64 i))]) (fun i => [(57, .arr 4 1 (rowB i fun _ => true)), (34, .arr 3 1 ((fnL M fun k => ((cK (fun _ => true) F k ws.length : Nat) : Int)).map (.int .i64)))]) (fun i => ws.length - i) 0 (by omega) ?_ rfl ?_
          · ((repeat (first | exact trivial | (refine ⟨?_, ?_⟩; (focus (first | rfl | (simp [lk, argsS, args0]; done) | (simp [lk, argsS, args0]; omega)))))))
          · intro i hi
            have hl3 : (rowB i fun _ => true).length = i := by simp
            by_cases hlt : i < ws.length
            · have hsn := rowB_snoc (M := i) (F := fun _ => true)
              repeat (first | refine awp_seq ?_ | refine then_n ?_ | refine then_r ?_ | refine then_x ?_ | refine block_n ?_ | refine block_r ?_ | refine block_x ?_ | refine u_y ?_ | refine loop_r ?_ | refine loop_x ?_ | refine awp_region ?_ | refine awpL_nil ?_ | refine awpQL_nil ?_ | refine awp_block ?_ | refine awp_skip ?_ | refine awp_exit ?_ | refine awp_label ?_ | refine u_dT ?_ | refine u_d ?_ | refine u_l ?_ | refine u_o ?_ | refine u_q ?_ | refine u_lr ?_ | refine u_qr ?_ | refine u_ls ?_ | refine u_qs ?_ | refine u_t ?_ | refine u_f ?_ | refine v_s ?_ | refine v_o ?_ | refine v_on ?_ | refine v_og ?_ | refine v_q ?_ | refine v_sr ?_ | refine v_k ?_ | refine m_nil ?_)
              refine loop_n (i + 1) (by omega) ?_ ?_ (by omega)
              · ((repeat (first | exact trivial | (refine ⟨?_, ?_⟩; (focus (first | rfl | (simp [lk, argsS, args0]; done) | (simp [lk, argsS, args0]; omega)))))))
              · rw [hsn]; simp [killH, keepH, memB, Chunk.mapc]
            · have : i = ws.length := by omega
              subst this
              have h0 : (rowB ws.length fun _ => true) = rowB ws.length (kp ws.length M F 0) := rfl
              have h0' : (fnL M fun k => ((cK (fun _ => true) F k ws.length : Nat) : Int)) = fnL M fun k => ((cK (kp ws.length M F 0) F k ws.length : Nat) : Int) := rfl
              rw [h0, h0']
              repeat (first | refine awp_seq ?_ | refine then_n ?_ | refine then_r ?_ | refine then_x ?_ | refine block_n ?_ | refine block_r ?_ | refine block_x ?_ | refine u_y ?_ | refine loop_r ?_ | refine loop_x ?_ | refine awp_region ?_ | refine awpL_nil ?_ | refine awpQL_nil ?_ | refine awp_block ?_ | refine awp_skip ?_ | refine awp_exit ?_ | refine awp_label ?_ | refine u_dT ?_ | refine u_d ?_ | refine u_l ?_ | refine u_o ?_ | refine u_q ?_ | refine u_lr ?_ | refine u_qr ?_ | refine u_ls ?_ | refine u_qs ?_ | refine u_t ?_ | refine u_f ?_ | refine v_s ?_ | refine v_o ?_ | refine v_on ?_ | refine v_og ?_ | refine v_q ?_ | refine v_sr ?_ | refine v_k ?_ | refine m_nil ?_)
              refine awp_loop (fun j : Nat => j ≤ ws.length) (fun j => [(3, .d (.ptr (rows ws))), (7, .d (.lst ((tabB ws.length M F).map D.lst))), (8, .own 34), (13, .own 57), (14, .d (.int .i64 ((ws.length : Int) - 1 - j)))]) (fun j => [(57, .arr 4 1 (rowB ws.length (kp ws.length M F j))), (34, .arr 3 1 ((fnL M fun k => ((cK (kp ws.length M F j) F k ws.length : Nat) : Int)).map (.int .i64)))]) (fun j => ws.length - j) 0 (by omega) ?_ rfl ?_
              · refine ⟨rfl, rfl, rfl, rfl, ?_, trivial⟩
                show SV.d (.int .i64 (((List.map ints ws).length : Int) - 1)) = _
                rw [hle]; simp
              · intro j hj
                by_cases hjl : j < ws.length
                · have hidx : ((ws.length : Int) - 1 - j) = ((ws.length - 1 - j : Nat) : Int) := by omega
                  have hnx : ((ws.length : Int) - 1 - j) - 1 = (ws.length : Int) - 1 - ((j + 1 : Nat) : Int) := by omega
                  have hra := hrow (ws.length - 1 - j) (by omega)
                  rw [← hidx] at hra
                  have hKa : kp ws.length M F j (ws.length - 1 - j) = true := kp_old (by omega)
                  have hkp : ∀ i, kp ws.length M F (j + 1) i = if i = ws.length - 1 - j then need ws.length M F (kp ws.length M F j) (ws.length - 1 - j) else kp ws.length M F j i := fun _ => rfl
                  have halt : ws.length - 1 - j < ws.length := by omega
                  have hix : ((ws.length : Int) - 1 - j).toNat = ws.length - 1 - j := by omega
                  generalize kp ws.length M F j = K at *
                  generalize hKn : kp ws.length M F (j + 1) = K2 at *
                  generalize ws.length - 1 - j = a at *
                  have hlK := hrl K
                  have hlC := hfl fun k => ((cK K F k ws.length : Nat) : Int)
                  have hn0 : ((List.range 0).any fun g => aloB F K a g ws.length) = false := rfl
                  repeat (first | refine awp_seq ?_ | refine then_n ?_ | refine then_r ?_ | refine then_x ?_ | refine block_n ?_ | refine block_r ?_ | refine block_x ?_ | refine u_y ?_ | refine loop_r ?_ | refine loop_x ?_ | refine awp_region ?_ | refine awpL_nil ?_ | refine awpQL_nil ?_ | refine awp_block ?_ | refine awp_skip ?_ | refine awp_exit ?_ | refine awp_label ?_ | refine u_dT ?_ | refine u_d ?_ | refine u_l ?_ | refine u_o ?_ | refine u_q ?_ | refine u_lr ?_ | refine u_qr ?_ | refine u_ls ?_ | refine u_qs ?_ | refine u_t ?_ | refine u_f ?_ | refine v_s ?_ | refine v_o ?_ | refine v_on ?_ | refine v_og ?_ | refine v_q ?_ | refine v_sr ?_ | refine v_k ?_ | refine m_nil ?_)
                  refine awp_loop (fun k : Nat => k ≤ M) (fun k => [(3, .d (.ptr (rows ws))), (7, .d (.lst ((tabB ws.length M F).map D.lst))), (8, .own 34), (13, .own 57), (14, .d (.int .i64 ((ws.length : Int) - 1 - j))), (15, .d (.bool ((List.range k).any fun g => aloB F K a g ws.length))), (76, .d (.lst (rowB M (F a)))), (77, .d (.int .i64 (rowB M (F a)).length)), (78, .d (.int .i64 k))])
                    (fun k => [(57, .arr 4 1 (rowB ws.length K)), (34, .arr 3 1 ((fnL M fun k => ((cK K F k ws.length : Nat) : Int)).map (.int .i64)))]) (fun k => M - k) 0 (by omega) ?_ rfl ?_
                  · rw [hn0]; ((repeat (first | exact trivial | (refine ⟨?_, ?_⟩; (focus (first | rfl | (simp [lk, argsS, args0]; done) | (simp [lk, argsS, args0]; omega)))))))
                  · intro k hk
                    by_cases hkl : k < M
                    · have hel := rowB_get (F := F a) hkl
                      have hmv := fnL_el (N := M) (F := fun k => ((cK K F k ws.length : Nat) : Int)) hkl
                      have hsucc : ((List.range (k + 1)).any fun g => aloB F K a g ws.length) = (((List.range k).any fun g => aloB F K a g ws.length) || aloB F K a k ws.length) := by
                        rw [List.range_succ, List.any_append]; simp
                      cases hnd : ((List.range k).any fun g => aloB F K a g ws.length)
                      · rw [hnd, Bool.false_or] at hsucc
                        cases hF : F a k
                        · have hal : aloB F K a k ws.length = false := by unfold aloB; rw [hF, Bool.false_and]
                          rw [hF] at hel
                          rw [hal] at hsucc
                          repeat (first | refine awp_seq ?_ | refine then_n ?_ | refine then_r ?_ | refine then_x ?_ | refine block_n ?_ | refine block_r ?_ | refine block_x ?_ | refine u_y ?_ | refine loop_r ?_ | refine loop_x ?_ | refine awp_region ?_ | refine awpL_nil ?_ | refine awpQL_nil ?_ | refine awp_block ?_ | refine awp_skip ?_ | refine awp_exit ?_ | refine awp_label ?_ | refine u_dT ?_ | refine u_d ?_ | refine u_l ?_ | refine u_o ?_ | refine u_q ?_ | refine u_lr ?_ | refine u_qr ?_ | refine u_ls ?_ | refine u_qs ?_ | refine u_t ?_ | refine u_f ?_ | refine v_s ?_ | refine v_o ?_ | refine v_on ?_ | refine v_og ?_ | refine v_q ?_ | refine v_sr ?_ | refine v_k ?_ | refine m_nil ?_)
                          refine loop_n (k + 1) (by omega) ?_ rfl (by omega)
                          rw [hsucc]; ((repeat (first | exact trivial | (refine ⟨?_, ?_⟩; (focus (first | rfl | (simp [lk, argsS, args0]; done) | (simp [lk, argsS, args0]; omega)))))))
                        · have hal := cK_alone (k := k) hKa halt hF
                          rw [hF] at hel
                          rw [← hal] at hsucc
                          repeat (first | refine awp_seq ?_ | refine then_n ?_ | refine then_r ?_ | refine then_x ?_ | refine block_n ?_ | refine block_r ?_ | refine block_x ?_ | refine u_y ?_ | refine loop_r ?_ | refine loop_x ?_ | refine awp_region ?_ | refine awpL_nil ?_ | refine awpQL_nil ?_ | refine awp_block ?_ | refine awp_skip ?_ | refine awp_exit ?_ | refine awp_label ?_ | refine u_dT ?_ | refine u_d ?_ | refine u_l ?_ | refine u_o ?_ | refine u_q ?_ | refine u_lr ?_ | refine u_qr ?_ | refine u_ls ?_ | refine u_qs ?_ | refine u_t ?_ | refine u_f ?_ | refine v_s ?_ | refine v_o ?_ | refine v_on ?_ | refine v_og ?_ | refine v_q ?_ | refine v_sr ?_ | refine v_k ?_ | refine m_nil ?_)
                          refine loop_n (k + 1) (by omega) ?_ rfl (by omega)
                          rw [hsucc]; ((repeat (first | exact trivial | (refine ⟨?_, ?_⟩; (focus (first | rfl | (simp [lk, argsS, args0]; done) | (simp [lk, argsS, args0]; omega)))))))
                      · rw [hnd, Bool.true_or] at hsucc
                        repeat (first | refine awp_seq ?_ | refine then_n ?_ | refine then_r ?_ | refine then_x ?_ | refine block_n ?_ | refine block_r ?_ | refine block_x ?_ | refine u_y ?_ | refine loop_r ?_ | refine loop_x ?_ | refine awp_region ?_ | refine awpL_nil ?_ | refine awpQL_nil ?_ | refine awp_block ?_ | refine awp_skip ?_ | refine awp_exit ?_ | refine awp_label ?_ | refine u_dT ?_ | refine u_d ?_ | refine u_l ?_ | refine u_o ?_ | refine u_q ?_ | refine u_lr ?_ | refine u_qr ?_ | refine u_ls ?_ | refine u_qs ?_ | refine u_t ?_ | refine u_f ?_ | refine v_s ?_ | refine v_o ?_ | refine v_on ?_ | refine v_og ?_ | refine v_q ?_ | refine v_sr ?_ | refine v_k ?_ | refine m_nil ?_)
                        refine loop_n (k + 1) (by omega) ?_ rfl (by omega)
                        rw [hsucc]; ((repeat (first | exact trivial | (refine ⟨?_, ?_⟩; (focus (first | rfl | (simp [lk, argsS, args0]; done) | (simp [lk, argsS, args0]; omega)))))))
                    · have : k = M := by omega
                      subst this
                      have hnd : ((List.range k).any fun g => aloB F K a g ws.length) = need ws.length k F K a := rfl
                      rw [hnd]
                      cases hne : need ws.length k F K a
                      · have hK2 : ∀ i, K2 i = if i = a then false else K i := fun i => by rw [hkp, hne]
                        have hK2f : K2 = fun i => if i = a then false else K i := funext hK2
                        have hcd : ∀ g, cK K F g ws.length = cK K2 F g ws.length + if F a g then 1 else 0 := fun g => by rw [hK2f]; exact cK_drop hKa halt
                        have hs1 := rowB_set (M := ws.length) (k := a) (F := K) (v := false)
                        rw [← hK2f] at hs1
                        have hc0 : (fnL k fun g => ((cK K F g ws.length : Nat) : Int)) = fnL k fun g => if g < 0 then ((cK K2 F g ws.length : Nat) : Int) else ((cK K F g ws.length : Nat) : Int) := fnL_congr fun g _ => by simp
                        repeat (first | refine awp_seq ?_ | refine then_n ?_ | refine then_r ?_ | refine then_x ?_ | refine block_n ?_ | refine block_r ?_ | refine block_x ?_ | refine u_y ?_ | refine loop_r ?_ | refine loop_x ?_ | refine awp_region ?_ | refine awpL_nil ?_ | refine awpQL_nil ?_ | refine awp_block ?_ | refine awp_skip ?_ | refine awp_exit ?_ | refine awp_label ?_ | refine u_dT ?_ | refine u_d ?_ | refine u_l ?_ | refine u_o ?_ | refine u_q ?_ | refine u_lr ?_ | refine u_qr ?_ | refine u_ls ?_ | refine u_qs ?_ | refine u_t ?_ | refine u_f ?_ | refine v_s ?_ | refine v_o ?_ | refine v_on ?_ | refine v_og ?_ | refine v_q ?_ | refine v_sr ?_ | refine v_k ?_ | refine m_nil ?_)
                        refine awp_loop (fun q : Nat => q ≤ k) (fun q => [(3, .d (.ptr (rows ws))), (7, .d (.lst ((tabB ws.length k F).map D.lst))), (8, .own 34), (13, .own 57), (14, .d (.int .i64 ((ws.length : Int) - 1 - j))), (102, .d (.lst (rowB k (F a)))), (103, .d (.int .i64 (rowB k (F a)).length)), (104, .d (.int .i64 q))])
                          (fun q => [(57, .arr 4 1 (rowB ws.length K2)), (34, .arr 3 1 ((fnL k fun g => if g < q then ((cK K2 F g ws.length : Nat) : Int) else ((cK K F g ws.length : Nat) : Int)).map (.int .i64)))]) (fun q => k - q) 0 (by omega) ?_ ?_ ?_
                        · ((repeat (first | exact trivial | (refine ⟨?_, ?_⟩; (focus (first | rfl | (simp [lk, argsS, args0]; done) | (simp [lk, argsS, args0]; omega)))))))
                        · rw [← hc0, ← hs1, ← hix]; rfl
                        · intro q hq
                          have hl4 := hfl fun g => if g < q then ((cK K2 F g ws.length : Nat) : Int) else ((cK K F g ws.length : Nat) : Int)
                          by_cases hql : q < k
                          · have hel := rowB_get (F := F a) hql
                            have hck := cK_le (K := K) (F := F) (k := q) ws.length
                            have hcq := hcd q
                            have hmv := fnL_el (N := k) (F := fun g => if g < q then ((cK K2 F g ws.length : Nat) : Int) else ((cK K F g ws.length : Nat) : Int)) hql
                            simp only [Nat.lt_irrefl, if_false] at hmv
                            cases hF : F a q
                            · rw [hF] at hel hcq
                              have hcg := fnL_congr (N := k) (F := fun g => if g < q then ((cK K2 F g ws.length : Nat) : Int) else ((cK K F g ws.length : Nat) : Int)) (G := fun g => if g < q + 1 then ((cK K2 F g ws.length : Nat) : Int) else ((cK K F g ws.length : Nat) : Int)) fun g _ => by
                                by_cases e : g = q
                                · subst e; simp [hcq]
                                · by_cases h : g < q
                                  · rw [if_pos h, if_pos (by omega)]
                                  · rw [if_neg h, if_neg (by omega)]
                              repeat (first | refine awp_seq ?_ | refine then_n ?_ | refine then_r ?_ | refine then_x ?_ | refine block_n ?_ | refine block_r ?_ | refine block_x ?_ | refine u_y ?_ | refine loop_r ?_ | refine loop_x ?_ | refine awp_region ?_ | refine awpL_nil ?_ | refine awpQL_nil ?_ | refine awp_block ?_ | refine awp_skip ?_ | refine awp_exit ?_ | refine awp_label ?_ | refine u_dT ?_ | refine u_d ?_ | refine u_l ?_ | refine u_o ?_ | refine u_q ?_ | refine u_lr ?_ | refine u_qr ?_ | refine u_ls ?_ | refine u_qs ?_ | refine u_t ?_ | refine u_f ?_ | refine v_s ?_ | refine v_o ?_ | refine v_on ?_ | refine v_og ?_ | refine v_q ?_ | refine v_sr ?_ | refine v_k ?_ | refine m_nil ?_)
                              refine loop_n (q + 1) (by omega) ?_ ?_ (by omega)
                              · ((repeat (first | exact trivial | (refine ⟨?_, ?_⟩; (focus (first | rfl | (simp [lk, argsS, args0]; done) | (simp [lk, argsS, args0]; omega)))))))
                              · rw [hcg]
                            · rw [hF] at hel hcq
                              have hst := fnL_set (N := k) (k := q) (F := fun g => if g < q then ((cK K2 F g ws.length : Nat) : Int) else ((cK K F g ws.length : Nat) : Int)) (v := ((cK K F q ws.length : Nat) : Int) - 1)
                              have hcg := fnL_congr (N := k) (F := fun g => if g = q then ((cK K F q ws.length : Nat) : Int) - 1 else if g < q then ((cK K2 F g ws.length : Nat) : Int) else ((cK K F g ws.length : Nat) : Int)) (G := fun g => if g < q + 1 then ((cK K2 F g ws.length : Nat) : Int) else ((cK K F g ws.length : Nat) : Int)) fun g _ => by
                                by_cases e : g = q
                                · subst e
                                  rw [if_pos rfl, if_pos (by omega)]
                                  simp only [if_true] at hcq
                                  omega
                                · rw [if_neg e]
                                  by_cases h : g < q
                                  · rw [if_pos h, if_pos (by omega)]
                                  · rw [if_neg h, if_neg (by omega)]
                              rw [hcg] at hst
                              repeat (first | refine awp_seq ?_ | refine then_n ?_ | refine then_r ?_ | refine then_x ?_ | refine block_n ?_ | refine block_r ?_ | refine block_x ?_ | refine u_y ?_ | refine loop_r ?_ | refine loop_x ?_ | refine awp_region ?_ | refine awpL_nil ?_ | refine awpQL_nil ?_ | refine awp_block ?_ | refine awp_skip ?_ | refine awp_exit ?_ | refine awp_label ?_ | refine u_dT ?_ | refine u_d ?_ | refine u_l ?_ | refine u_o ?_ | refine u_q ?_ | refine u_lr ?_ | refine u_qr ?_ | refine u_ls ?_ | refine u_qs ?_ | refine u_t ?_ | refine u_f ?_ | refine v_s ?_ | refine v_o ?_ | refine v_on ?_ | refine v_og ?_ | refine v_q ?_ | refine v_sr ?_ | refine v_k ?_ | refine m_nil ?_)
                              refine loop_n (q + 1) (by omega) ?_ ?_ (by omega)
                              · ((repeat (first | exact trivial | (refine ⟨?_, ?_⟩; (focus (first | rfl | (simp [lk, argsS, args0]; done) | (simp [lk, argsS, args0]; omega)))))))
                              · rw [← hst]; rfl
                          · have : q = k := by omega
                            subst this
                            have hcg := fnL_congr (N := q) (F := fun g => if g < q then ((cK K2 F g ws.length : Nat) : Int) else ((cK K F g ws.length : Nat) : Int)) (G := fun g => ((cK K2 F g ws.length : Nat) : Int)) fun g hg => if_pos hg
                            rw [hcg]
                            repeat (first | refine awp_seq ?_ | refine then_n ?_ | refine then_r ?_ | refine then_x ?_ | refine block_n ?_ | refine block_r ?_ | refine block_x ?_ | refine u_y ?_ | refine loop_r ?_ | refine loop_x ?_ | refine awp_region ?_ | refine awpL_nil ?_ | refine awpQL_nil ?_ | refine awp_block ?_ | refine awp_skip ?_ | refine awp_exit ?_ | refine awp_label ?_ | refine u_dT ?_ | refine u_d ?_ | refine u_l ?_ | refine u_o ?_ | refine u_q ?_ | refine u_lr ?_ | refine u_qr ?_ | refine u_ls ?_ | refine u_qs ?_ | refine u_t ?_ | refine u_f ?_ | refine v_s ?_ | refine v_o ?_ | refine v_on ?_ | refine v_og ?_ | refine v_q ?_ | refine v_sr ?_ | refine v_k ?_ | refine m_nil ?_)
                            refine loop_n (j + 1) (by omega) ?_ ?_ (by omega)
                            · rw [← hnx]; ((repeat (first | exact trivial | (refine ⟨?_, ?_⟩; (focus (first | rfl | (simp [lk, argsS, args0]; done) | (simp [lk, argsS, args0]; omega)))))))
                            · rw [hKn]
                      · have hK2f : K2 = K := funext fun i => by
                          rw [hkp, hne]
                          by_cases e : i = a
                          · rw [if_pos e, e, hKa]
                          · rw [if_neg e]
                        repeat (first | refine awp_seq ?_ | refine then_n ?_ | refine then_r ?_ | refine then_x ?_ | refine block_n ?_ | refine block_r ?_ | refine block_x ?_ | refine u_y ?_ | refine loop_r ?_ | refine loop_x ?_ | refine awp_region ?_ | refine awpL_nil ?_ | refine awpQL_nil ?_ | refine awp_block ?_ | refine awp_skip ?_ | refine awp_exit ?_ | refine awp_label ?_ | refine u_dT ?_ | refine u_d ?_ | refine u_l ?_ | refine u_o ?_ | refine u_q ?_ | refine u_lr ?_ | refine u_qr ?_ | refine u_ls ?_ | refine u_qs ?_ | refine u_t ?_ | refine u_f ?_ | refine v_s ?_ | refine v_o ?_ | refine v_on ?_ | refine v_og ?_ | refine v_q ?_ | refine v_sr ?_ | refine v_k ?_ | refine m_nil ?_)
                        refine loop_n (j + 1) (by omega) ?_ ?_ (by omega)
                        · rw [← hnx]; ((repeat (first | exact trivial | (refine ⟨?_, ?_⟩; (focus (first | rfl | (simp [lk, argsS, args0]; done) | (simp [lk, argsS, args0]; omega)))))))
                        · rw [hKn, hK2f]
                · have : j = ws.length := by omega
                  subst this
                  refine awp_freeze 34 rfl rfl ?_
                  generalize kp ws.length M F ws.length = K at *
                  repeat (first | refine v_w (t := 117) ?_ | refine awp_seq ?_ | refine then_n ?_ | refine then_r ?_ | refine then_x ?_ | refine block_n ?_ | refine block_r ?_ | refine block_x ?_ | refine u_y ?_ | refine loop_r ?_ | refine loop_x ?_ | refine awp_region ?_ | refine awpL_nil ?_ | refine awpQL_nil ?_ | refine awp_block ?_ | refine awp_skip ?_ | refine awp_exit ?_ | refine awp_label ?_ | refine u_dT ?_ | refine u_d ?_ | refine u_w (t := 117) ?_ | refine u_l ?_ | refine u_o ?_ | refine u_q ?_ | refine u_lr ?_ | refine u_qr ?_ | refine u_ls ?_ | refine u_qs ?_ | refine u_t ?_ | refine u_f ?_ | refine v_s ?_ | refine v_o ?_ | refine v_on ?_ | refine v_og ?_ | refine v_q ?_ | refine v_sr ?_ | refine v_k ?_ | refine m_nil ?_)
                  refine awp_toRows 117 2 1 rfl rfl rfl rfl ?_
                  refine awp_loop (fun i : Nat => i ≤ ws.length) (fun i => [(13, .own 57), (20, .own 117), (118, .d (rows ws)), (119, .d (.int .i64 (List.map ints ws).length)), (120, .d (.int .i64 i))]) (fun i => [(117, .rows 31 2 1 (rws (kepL ws K i)) none), (57, .arr 4 1 (rowB ws.length K))]) (fun i => ws.length - i) 0 (by omega) ?_ rfl ?_
                  · ((repeat (first | exact trivial | (refine ⟨?_, ?_⟩; (focus (first | rfl | (simp [lk, argsS, args0]; done) | (simp [lk, argsS, args0]; omega)))))))
                  · intro i hi
                    have hkl := kepL_len (ws := ws) (K := K) i
                    have hkr := rws_length (kepL ws K i)
                    by_cases hil : i < ws.length
                    · have hel : (List.map ints ws)[(i : Int).toNat]? = some (ints ws[i]) := by simp [hil]
                      have hkk := rowB_get (F := K) hil
                      have e4 := hclo _ (List.getElem_mem hil)
                      have hstep : kepL ws K (i + 1) = kepL ws K i ++ if K i then [ws[i]] else [] := by
                        show _ ++ (if _ then [ws.getD i []] else []) = _
                        rw [List.getD_eq_getElem?_getD, List.getElem?_eq_getElem hil, Option.getD_some]
                      cases hki : K i
                      · rw [hki] at hkk hstep
                        simp only [Bool.false_eq_true, if_false, List.append_nil] at hstep
                        repeat (first | refine awp_seq ?_ | refine then_n ?_ | refine then_r ?_ | refine then_x ?_ | refine block_n ?_ | refine block_r ?_ | refine block_x ?_ | refine u_y ?_ | refine loop_r ?_ | refine loop_x ?_ | refine awp_region ?_ | refine awpL_nil ?_ | refine awpQL_nil ?_ | refine awp_block ?_ | refine awp_skip ?_ | refine awp_exit ?_ | refine awp_label ?_ | refine u_dT ?_ | refine u_d ?_ | refine u_l ?_ | refine u_o ?_ | refine u_q ?_ | refine u_lr ?_ | refine u_qr ?_ | refine u_ls ?_ | refine u_qs ?_ | refine u_t ?_ | refine u_f ?_ | refine v_s ?_ | refine v_o ?_ | refine v_on ?_ | refine v_og ?_ | refine v_q ?_ | refine v_sr ?_ | refine v_k ?_ | refine m_nil ?_)
                        refine loop_n (i + 1) (by omega) ?_ ?_ (by omega)
                        · ((repeat (first | exact trivial | (refine ⟨?_, ?_⟩; (focus (first | rfl | (simp [lk, argsS, args0]; done) | (simp [lk, argsS, args0]; omega)))))))
                        · rw [hstep]
                      · rw [hki] at hkk hstep
                        simp only [if_true] at hstep
                        have hr2 : rws (kepL ws K i ++ [ws[i]]) = rws (kepL ws K i) ++ [ws[i].map (.int .i64)] := by simp [rws]
                        repeat (first | refine awp_seq ?_ | refine then_n ?_ | refine then_r ?_ | refine then_x ?_ | refine block_n ?_ | refine block_r ?_ | refine block_x ?_ | refine u_y ?_ | refine loop_r ?_ | refine loop_x ?_ | refine awp_region ?_ | refine awpL_nil ?_ | refine awpQL_nil ?_ | refine awp_block ?_ | refine awp_skip ?_ | refine awp_exit ?_ | refine awp_label ?_ | refine u_dT ?_ | refine u_d ?_ | refine u_l ?_ | refine u_o ?_ | refine u_q ?_ | refine u_lr ?_ | refine u_qr ?_ | refine u_ls ?_ | refine u_qs ?_ | refine u_t ?_ | refine u_f ?_ | refine v_s ?_ | refine v_o ?_ | refine v_on ?_ | refine v_og ?_ | refine v_q ?_ | refine v_sr ?_ | refine v_k ?_ | refine m_nil ?_)
                        refine hcl [] [(30000, 500)] e4 ?_
                        repeat (first | refine awp_seq ?_ | refine then_n ?_ | refine then_r ?_ | refine then_x ?_ | refine block_n ?_ | refine block_r ?_ | refine block_x ?_ | refine u_y ?_ | refine loop_r ?_ | refine loop_x ?_ | refine awp_region ?_ | refine awpL_nil ?_ | refine awpQL_nil ?_ | refine awp_block ?_ | refine awp_skip ?_ | refine awp_exit ?_ | refine awp_label ?_ | refine u_dT ?_ | refine u_d ?_ | refine u_l ?_ | refine u_o ?_ | refine u_q ?_ | refine u_lr ?_ | refine u_qr ?_ | refine u_ls ?_ | refine u_qs ?_ | refine u_t ?_ | refine u_f ?_ | refine v_s ?_ | refine v_o ?_ | refine v_on ?_ | refine v_og ?_ | refine v_q ?_ | refine v_sr ?_ | refine v_k ?_ | refine m_nil ?_)
                        refine loop_n (i + 1) (by omega) ?_ ?_ (by omega)
                        · ((repeat (first | exact trivial | (refine ⟨?_, ?_⟩; (focus (first | rfl | (simp [lk, argsS, args0]; done) | (simp [lk, argsS, args0]; omega)))))))
                        · rw [hstep, hr2]; rfl
                    · have : i = ws.length := by omega
                      subst this
                      repeat (first | refine awp_seq ?_ | refine then_n ?_ | refine then_r ?_ | refine then_x ?_ | refine block_n ?_ | refine block_r ?_ | refine block_x ?_ | refine u_y ?_ | refine loop_r ?_ | refine loop_x ?_ | refine awp_region ?_ | refine awpL_nil ?_ | refine awpQL_nil ?_ | refine awp_block ?_ | refine awp_skip ?_ | refine awp_exit ?_ | refine awp_label ?_ | refine u_dT ?_ | refine u_d ?_ | refine u_l ?_ | refine u_o ?_ | refine u_q ?_ | refine u_lr ?_ | refine u_qr ?_ | refine u_ls ?_ | refine u_qs ?_ | refine u_t ?_ | refine u_f ?_ | refine v_s ?_ | refine v_o ?_ | refine v_on ?_ | refine v_og ?_ | refine v_q ?_ | refine v_sr ?_ | refine v_k ?_ | refine m_nil ?_)
                      (refine awp_ret ?_; (repeat (first | refine then_r ?_ | refine block_r ?_ | refine loop_r ?_)); refine u_rH [(117, 30000)] ?_ ?_)
                      · rfl
                      · rfl
    · rw [if_neg hr] at e1 ⊢
      refine hc_intro tabIs _ Try.func23 rfl rfl Try.ntmps23 rfl rfl rfl ?_ fun w0 ok0 XM XA anc => ?_
      · exact likeIn_nil
      repeat (first | refine awp_seq ?_ | refine then_n ?_ | refine then_r ?_ | refine then_x ?_ | refine block_n ?_ | refine block_r ?_ | refine block_x ?_ | refine u_y ?_ | refine loop_r ?_ | refine loop_x ?_ | refine awp_region ?_ | refine awpL_nil ?_ | refine awpQL_nil ?_ | refine awp_block ?_ | refine awp_skip ?_ | refine awp_exit ?_ | refine awp_label ?_ | refine u_dT ?_ | refine u_d ?_ | ((first | apply c_l | apply c_q | apply c_lr | apply c_qr); (iterate 2 exact rfl); (focus (first | exact e1)); (iterate 2 exact rfl)) | (apply v_c; (iterate 4 exact rfl); (focus (first | exact e1)); (iterate 2 exact rfl)) | refine u_l ?_ | refine u_o ?_ | refine u_q ?_ | refine u_lr ?_ | refine u_qr ?_ | refine u_ls ?_ | refine u_qs ?_ | refine u_t ?_ | refine u_f ?_ | refine v_s ?_ | refine v_o ?_ | refine v_on ?_ | refine v_og ?_ | refine v_q ?_ | refine v_sr ?_ | refine v_k ?_ | refine m_nil ?_)
      refine awp_nilSlot 4 7777 31 1 rfl rfl rfl ?_
      refine awp_toRows 7777 2 1 rfl rfl rfl rfl ?_
      (refine awp_ret ?_; (repeat (first | refine then_r ?_ | refine block_r ?_ | refine loop_r ?_)); refine u_rH [(7777, 30000)] ?_ ?_)
      · rfl
      · rfl
  · rw [if_neg hv] at e1 ⊢
    refine hc_intro tabIs _ Try.func23 rfl rfl Try.ntmps23 rfl rfl rfl ?_ fun w0 ok0 XM XA anc => ?_
    · exact likeIn_nil
    repeat (first | refine awp_seq ?_ | refine then_n ?_ | refine then_r ?_ | refine then_x ?_ | refine block_n ?_ | refine block_r ?_ | refine block_x ?_ | refine u_y ?_ | refine loop_r ?_ | refine loop_x ?_ | refine awp_region ?_ | refine awpL_nil ?_ | refine awpQL_nil ?_ | refine awp_block ?_ | refine awp_skip ?_ | refine awp_exit ?_ | refine awp_label ?_ | refine u_dT ?_ | refine u_d ?_ | ((first | apply c_l | apply c_q | apply c_lr | apply c_qr); (iterate 2 exact rfl); (focus (first | exact e1)); (iterate 2 exact rfl)) | (apply v_c; (iterate 4 exact rfl); (focus (first | exact e1)); (iterate 2 exact rfl)) | refine u_l ?_ | refine u_o ?_ | refine u_q ?_ | refine u_lr ?_ | refine u_qr ?_ | refine u_ls ?_ | refine u_qs ?_ | refine u_t ?_ | refine u_f ?_ | refine v_s ?_ | refine v_o ?_ | refine v_on ?_ | refine v_og ?_ | refine v_q ?_ | refine v_sr ?_ | refine v_k ?_ | refine m_nil ?_)
    refine awp_nilSlot 4 7777 31 1 rfl rfl rfl ?_
    refine awp_toRows 7777 2 1 rfl rfl rfl rfl ?_
    (refine awp_ret ?_; (repeat (first | refine then_r ?_ | refine block_r ?_ | refine loop_r ?_)); refine u_rH [(7777, 30000)] ?_ ?_)
    · rfl
    · rfl
end Go.Proofs.Ythcaccakbmooeaa

/-! The law of ShrinkSuite. No condition. -/
namespace Go.Proofs.Ythcaccakbmooeaa
open Go
attribute [local irreducible] awp awpL awpQL awpQ awpM pWalk Qt AC thenQ blockQ loopQ OpTo
set_option linter.unusedVariables false
set_option linter.unusedSimpArgs false
set_option maxHeartbeats 2000000
attribute [local irreducible] HC

theorem shD_len {s o : Int} {nx ou ws : List (List Int)} (h3 : RowsOk ws) : (shD s o nx ou ws).1.length ≤ 400 ∧ (∀ w ∈ (shD s o nx ou ws).1, w.length ≤ 400) ∧ RowsOk (shD s o nx ou ws).1 := by
  have h0 : ([] : List (List Int)).length ≤ 400 ∧ (∀ w ∈ ([] : List (List Int)), w.length ≤ 400) ∧ RowsOk [] := ⟨by simp, (fun w h => absurd h (by simp)), ⟨(fun w h => absurd h (by simp)), by simp⟩⟩
  unfold shD
  split
  · split
    · rename_i hr
      obtain ⟨q1, q2⟩ := suite_of hr
      have hl := kepL_len (ws := ws) (K := shF s o nx ou ws) ws.length
      have hm := kepL_mem (ws := ws) (K := shF s o nx ou ws) (Nat.le_refl ws.length)
      refine ⟨by show (kepL _ _ _).length ≤ 400; omega, fun w hw => (q2 w (hm w hw)).1, ⟨fun w hw => h3.1 w (hm w hw), by show (kepL _ _ _).length ≤ _; omega⟩⟩
    · exact h0
  · exact h0

end Go.Proofs.Ythcaccakbmooeaa
