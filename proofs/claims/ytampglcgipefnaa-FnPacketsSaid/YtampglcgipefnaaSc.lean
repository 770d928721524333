/- Contracts of what is believed of a lit automaton, in the program. No condition. -/
import Derived.Test.YtampglcgipefnaaSb
namespace Go.Proofs.Ytampglcgipefnaa
open Go
attribute [local irreducible] awp awpL awpQL awpQ awpM pWalk Qt AC thenQ blockQ loopQ OpTo
set_option linter.unusedVariables false
set_option linter.unusedSimpArgs false
set_option maxHeartbeats 2000000
attribute [local irreducible] HC

/-- A valid lit automaton. -/
structure LV (s : Int) (nx : List (List Int)) (lp : List Int) : Prop where
  s1 : 1 ≤ s ∧ s ≤ 10
  n1 : 1 ≤ nx.length ∧ nx.length ≤ 3
  nx : Tbl s s nx
  lp : (lp.length : Int) = s
theorem lv_of {s : Int} {nx : List (List Int)} {lp : List Int} (h : litOk s nx lp = true) : LV s nx lp := by
  simp only [litOk, autoOk, inB, Bool.and_eq_true, decide_eq_true_eq] at h
  exact ⟨by omega, by omega, tbl_of h.1.2, h.2.1⟩

def lamp (lp : List Int) (q : Int) : Int := lp.getD q.toNat 0

theorem filter_take {P : Int → Bool} {L : List Int} {k : Nat} (hk : k < L.length) : (L.take (k + 1)).filter P = (L.take k).filter P ++ if P L[k] then [L[k]] else [] := by
  rw [List.take_succ_eq_append_getElem hk, List.filter_append]
  congr 1
  cases h : P L[k] <;> simp [h]
theorem bitsL_append (a b : List Int) (acc : Nat) : bitsL acc (a ++ b) = bitsL (bitsL acc a) b := by
  unfold bitsL
  rw [List.foldl_append]

theorem impl_lampSet {s x : Int} {nx : List (List Int)} {lp : List Int} {f : Nat} (v : LV s nx lp) (hf : f < 18446744073709551616) (hs : ∀ q ∈ setN f, 0 ≤ q ∧ q < s) :
    AC Try.prog 55 [.agg [.int .i64 s, rows nx, ints lp], .int .u64 f, .int .i64 x] (.int .u64 (bitsL 0 ((setN f).filter fun q => decide (lamp lp q = x)))) := by
  have hset := impl_set hf
  have hL2 : (setN f).length ≤ 64 := setTo_length f 64
  generalize setN f = L at *
  have hle : (List.map (D.int IntKind.i64) L).length = L.length := by simp
  have hs1 := v.s1
  have hlp := v.lp
  refine ac_intro tabIs _ Try.func55 rfl rfl Try.ntmps55 rfl rfl fun w0 ok0 => ?_
  repeat (first | refine awp_seq ?_ | refine then_n ?_ | refine then_r ?_ | refine then_x ?_ | refine block_n ?_ | refine block_r ?_ | refine block_x ?_ | refine u_y ?_ | refine loop_r ?_ | refine loop_x ?_ | refine awp_region ?_ | refine awpL_nil ?_ | refine awpQL_nil ?_ | refine awp_block ?_ | refine awp_skip ?_ | refine awp_exit ?_ | refine awp_label ?_ | refine u_dT ?_ | refine u_d ?_ | ((first | apply c_l | apply c_q | apply c_lr | apply c_qr); (iterate 2 exact rfl); (focus (first | exact hset)); (iterate 2 exact rfl)) | (apply v_c; (iterate 4 exact rfl); (focus (first | exact hset)); (iterate 2 exact rfl)) | refine u_l ?_ | refine u_o ?_ | refine u_q ?_ | refine u_lr ?_ | refine u_qr ?_ | refine u_ls ?_ | refine u_qs ?_ | refine u_t ?_ | refine u_f ?_ | refine v_s ?_ | refine v_o ?_ | refine v_on ?_ | refine v_og ?_ | refine v_q ?_ | refine v_sr ?_ | refine v_k ?_ | refine m_nil ?_)
  refine awp_loop (fun k : Nat => k ≤ L.length) (fun k => [(2, .d (.int .i64 x)), (3, .d (.ptr (.agg [.int .i64 s, rows nx, ints lp]))), (7, .d (.int .u64 (bitsL 0 ((L.take k).filter fun q => decide (lamp lp q = x))))), (11, .d (ints L)), (12, .d (.int .i64 L.length)), (13, .d (.int .i64 k))]) (fun _ => []) (fun k => L.length - k) 0 (by omega) ?_ rfl ?_
  · refine ⟨rfl, rfl, ?_, rfl, ?_, rfl, trivial⟩ <;> simp [lk, args0, bitsL]
  · intro k hk
    have hlt0 := bitsL_lt ((L.take k).filter fun q => decide (lamp lp q = x)) 0 (by omega) fun y hy => by have := hs y (List.mem_of_mem_take (List.mem_filter.1 hy).1); omega
    by_cases hlt : k < L.length
    · have he := el_int hlt
      have hq := hs _ (List.getElem_mem hlt)
      have q1 : (List.map (D.int .i64) lp)[L[k].toNat]? = some (.int .i64 (lamp lp L[k])) := el_int2 (ns := lp) (q := L[k]) (by omega)
      have hb2 : 0 ≤ L[k] ∧ L[k] < 64 := by omega
      have h2 := two_lt hb2
      have hstep := filter_take (P := fun q => decide (lamp lp q = x)) hlt
      by_cases hc : lamp lp L[k] = x
      · rw [if_pos (by simpa using hc)] at hstep
        repeat (first | refine awp_seq ?_ | refine then_n ?_ | refine then_r ?_ | refine then_x ?_ | refine block_n ?_ | refine block_r ?_ | refine block_x ?_ | refine u_y ?_ | refine loop_r ?_ | refine loop_x ?_ | refine awp_region ?_ | refine awpL_nil ?_ | refine awpQL_nil ?_ | refine awp_block ?_ | refine awp_skip ?_ | refine awp_exit ?_ | refine awp_label ?_ | refine u_dT ?_ | refine u_d ?_ | ((first | apply x_l | apply x_q | apply x_lr | apply x_qr); (focus (first | (apply qb_one; (iterate 2 (focus (first | exact rfl | (first | assumption | omega | (simp; omega) | (simp; done) | rfl))))) | (apply qb_or; (iterate 4 (focus (first | exact rfl | (first | assumption | omega | (simp; omega) | (simp; done) | rfl))))))); exact rfl) | (apply v_x; (iterate 2 exact rfl); (focus (intro ok0 nw hle; (first | (apply qb_one; (iterate 2 (focus (first | exact rfl | (first | assumption | omega | (simp; omega) | (simp; done) | rfl))))) | (apply qb_or; (iterate 4 (focus (first | exact rfl | (first | assumption | omega | (simp; omega) | (simp; done) | rfl)))))))); (iterate 2 exact rfl)) | refine u_l ?_ | refine u_o ?_ | refine u_q ?_ | refine u_lr ?_ | refine u_qr ?_ | refine u_ls ?_ | refine u_qs ?_ | refine u_t ?_ | refine u_f ?_ | refine v_s ?_ | refine v_o ?_ | refine v_on ?_ | refine v_og ?_ | refine v_q ?_ | refine v_sr ?_ | refine v_k ?_ | refine m_nil ?_)
        refine loop_n (k + 1) (by omega) ?_ rfl (by omega)
        refine ⟨rfl, rfl, ?_, rfl, rfl, ?_, trivial⟩
        · simp only [lk, hstep, two_eq, bor_eq, Nat.reduceEqDiff, if_false, if_true, bitsL_append]
          rfl
        · simp [lk]
      · rw [if_neg (by simpa using hc)] at hstep
        repeat (first | refine awp_seq ?_ | refine then_n ?_ | refine then_r ?_ | refine then_x ?_ | refine block_n ?_ | refine block_r ?_ | refine block_x ?_ | refine u_y ?_ | refine loop_r ?_ | refine loop_x ?_ | refine awp_region ?_ | refine awpL_nil ?_ | refine awpQL_nil ?_ | refine awp_block ?_ | refine awp_skip ?_ | refine awp_exit ?_ | refine awp_label ?_ | refine u_dT ?_ | refine u_d ?_ | ((first | apply x_l | apply x_q | apply x_lr | apply x_qr); (focus (first | (apply qb_one; (iterate 2 (focus (first | exact rfl | (first | assumption | omega | (simp; omega) | (simp; done) | rfl))))) | (apply qb_or; (iterate 4 (focus (first | exact rfl | (first | assumption | omega | (simp; omega) | (simp; done) | rfl))))))); exact rfl) | (apply v_x; (iterate 2 exact rfl); (focus (intro ok0 nw hle; (first | (apply qb_one; (iterate 2 (focus (first | exact rfl | (first | assumption | omega | (simp; omega) | (simp; done) | rfl))))) | (apply qb_or; (iterate 4 (focus (first | exact rfl | (first | assumption | omega | (simp; omega) | (simp; done) | rfl)))))))); (iterate 2 exact rfl)) | refine u_l ?_ | refine u_o ?_ | refine u_q ?_ | refine u_lr ?_ | refine u_qr ?_ | refine u_ls ?_ | refine u_qs ?_ | refine u_t ?_ | refine u_f ?_ | refine v_s ?_ | refine v_o ?_ | refine v_on ?_ | refine v_og ?_ | refine v_q ?_ | refine v_sr ?_ | refine v_k ?_ | refine m_nil ?_)
        refine loop_n (k + 1) (by omega) ?_ rfl (by omega)
        refine ⟨rfl, rfl, ?_, rfl, rfl, ?_, trivial⟩
        · simp only [lk, hstep, List.append_nil, Nat.reduceEqDiff, if_false, if_true]
        · simp [lk]
    · have : k = L.length := by omega
      subst this
      repeat (first | refine awp_seq ?_ | refine then_n ?_ | refine then_r ?_ | refine then_x ?_ | refine block_n ?_ | refine block_r ?_ | refine block_x ?_ | refine u_y ?_ | refine loop_r ?_ | refine loop_x ?_ | refine awp_region ?_ | refine awpL_nil ?_ | refine awpQL_nil ?_ | refine awp_block ?_ | refine awp_skip ?_ | refine awp_exit ?_ | refine awp_label ?_ | refine u_dT ?_ | refine u_d ?_ | refine u_l ?_ | refine u_o ?_ | refine u_q ?_ | refine u_lr ?_ | refine u_qr ?_ | refine u_ls ?_ | refine u_qs ?_ | refine u_t ?_ | refine u_f ?_ | refine v_s ?_ | refine v_o ?_ | refine v_on ?_ | refine v_og ?_ | refine v_q ?_ | refine v_sr ?_ | refine v_k ?_ | refine m_nil ?_)
      (refine awp_ret ?_; (repeat (first | refine then_r ?_ | refine block_r ?_ | refine loop_r ?_)); apply ret_ok (.inr rfl); (focus exact rfl))
      rw [List.take_of_length_le (by simp)]

/-! ### Is it a set? -/

end Go.Proofs.Ytampglcgipefnaa
