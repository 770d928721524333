/- LampClasses, in the reference and in the program, and its law. No condition. -/
import Derived.Test.YtampglcgipefnaaSf
import Derived.Test.YtampglcgipefnaaMa
namespace Go.Proofs.Ytampglcgipefnaa
open Go
attribute [local irreducible] awp awpL awpQL awpQ awpM pWalk Qt AC thenQ blockQ loopQ OpTo
set_option linter.unusedVariables false
set_option linter.unusedSimpArgs false
set_option maxHeartbeats 2000000
attribute [local irreducible] HC

/-- The states of each lamp, where there are any. -/
def clsL (lp L : List Int) : Nat → List (List Int)
  | 0 => []
  | k + 1 => clsL lp L k ++ if (L.filter fun q => decide (lamp lp q = k)) = [] then [] else [L.filter fun q => decide (lamp lp q = k)]
theorem clsL_len (lp L : List Int) : ∀ k, (clsL lp L k).length ≤ k
  | 0 => Nat.le_refl _
  | k + 1 => by
    have := clsL_len lp L k
    unfold clsL
    rw [List.length_append]
    split <;> simp <;> omega
theorem clsL_mem (lp L : List Int) : ∀ k, ∀ l ∈ clsL lp L k, l.length ≤ L.length
  | 0, _, h => by cases h
  | k + 1, l, h => by
    unfold clsL at h
    rcases List.mem_append.1 h with h | h
    · exact clsL_mem lp L k l h
    · split at h
      · cases h
      · simp only [List.mem_singleton] at h
        subst h
        exact List.length_filter_le ..

/-- What LampClasses answers. -/
def lcD (s : Int) (nx : List (List Int)) (lp : List Int) : List (List Int) × Int := if litOk s nx lp then (clsL lp (mk1 0 s.toNat) 4, 0) else ([], 1)

theorem impl_LampClassesH {s : Int} {nx : List (List Int)} {lp : List Int} (h : RowsOk nx) (h2 : lp.length ≤ 9223372036854775807) :
    HC Try.prog 22 [.d (.agg [.int .i64 s, rows nx, ints lp])] [] (.tup [.own 30000, .d (.int .i64 (lcD s nx lp).2)]) [(30000, .rows 27 2 1 (rws (lcD s nx lp).1) none)] := by
  have e1 := impl_ValidLit (s := s) (nx := nx) (lp := lp) h h2
  unfold lcD
  by_cases hv : litOk s nx lp = true
  · rw [if_pos hv]
    rw [hv] at e1
    have v := lv_of hv
    have hs := v.s1
    have e2 := impl_all (s := s) (nx := nx) (by omega)
    have hL : ∀ q ∈ mk1 0 s.toNat, 0 ≤ q ∧ q < s := fun q hq => by have := (mem_mk1 _ _ q).1 hq; omega
    have hLp := mk1_pairwise s.toNat 0
    have hLn : (mk1 0 s.toNat).length ≤ 1000 := by rw [mk1_length]; omega
    generalize mk1 0 s.toNat = L at *
    have hl64 : ∀ q ∈ L, 0 ≤ q ∧ q < 64 := fun q hq => by have := hL q hq; omega
    have e3 := impl_flockOf hl64 (by omega)
    have hb := bitsL_lt L 0 (by omega) fun q hq => by have := hl64 q hq; omega
    have hset : setN (bitsL 0 L) = L := setN_bits hl64 hLp
    refine hc_intro tabIs _ Try.func22 rfl rfl Try.ntmps22 rfl rfl rfl ?_ fun w0 ok0 XM XA anc => ?_
    · exact likeIn_nil
    repeat (first | refine v_w (t := 10) ?_ | refine awp_seq ?_ | refine then_n ?_ | refine then_r ?_ | refine then_x ?_ | refine block_n ?_ | refine block_r ?_ | refine block_x ?_ | refine u_y ?_ | refine loop_r ?_ | refine loop_x ?_ | refine awp_region ?_ | refine awpL_nil ?_ | refine awpQL_nil ?_ | refine awp_block ?_ | refine awp_skip ?_ | refine awp_exit ?_ | refine awp_label ?_ | refine u_dT ?_ | refine u_d ?_ | refine u_w (t := 10) ?_ | ((first | apply c_l | apply c_q | apply c_lr | apply c_qr); (iterate 2 exact rfl); (focus (first | exact e1)); (iterate 2 exact rfl)) | (apply v_c; (iterate 4 exact rfl); (focus (first | exact e1)); (iterate 2 exact rfl)) | refine u_l ?_ | refine u_o ?_ | refine u_q ?_ | refine u_lr ?_ | refine u_qr ?_ | refine u_ls ?_ | refine u_qs ?_ | refine u_t ?_ | refine u_f ?_ | refine v_s ?_ | refine v_o ?_ | refine v_on ?_ | refine v_og ?_ | refine v_q ?_ | refine v_sr ?_ | refine v_k ?_ | refine m_nil ?_)
    refine awp_toRows 10 2 1 rfl rfl rfl rfl ?_
    refine awp_loop (fun k : Nat => k ≤ 4) (fun k => [(1, .d (.ptr (.agg [.int .i64 s, rows nx, ints lp]))), (4, .own 10), (11, .d (.int .i64 k))]) (fun k => [(10, .rows 27 2 1 (rws (clsL lp L k)) none)]) (fun k => 4 - k) 0 (by omega) ?_ rfl ?_
    · ((repeat (first | exact trivial | (refine ⟨?_, ?_⟩; (focus (first | rfl | (simp [lk, argsS, args0]; done) | (simp [lk, argsS, args0]; omega)))))))
    · intro k hk
      have hcc := clsL_len lp L k
      have hrl := rws_length (clsL lp L k)
      by_cases hlt : k < 4
      · have e4 := impl_lampSet (x := (k : Int)) v hb (by rw [hset]; exact hL)
        rw [hset] at e4
        have hstep : clsL lp L (k + 1) = clsL lp L k ++ if (L.filter fun q => decide (lamp lp q = k)) = [] then [] else [L.filter fun q => decide (lamp lp q = k)] := rfl
        have hfl := List.length_filter_le (fun q => decide (lamp lp q = k)) L
        have ho64 : ∀ q ∈ L.filter (fun q => decide (lamp lp q = k)), 0 ≤ q ∧ q < 64 := fun q hq => hl64 q (List.mem_filter.1 hq).1
        have hop : (L.filter fun q => decide (lamp lp q = k)).Pairwise (· < ·) := List.Pairwise.filter _ hLp
        generalize (L.filter fun q => decide (lamp lp q = k)) = o at *
        have hso : setN (bitsL 0 o) = o := setN_bits ho64 hop
        have hbo := bitsL_lt o 0 (by omega) fun q hq => by have := ho64 q hq; omega
        have e5 := impl_setH hbo
        rw [hso] at e5
        have hz : bitsL 0 o = 0 ↔ o = [] := by
          constructor
          · intro e
            rw [e] at hso
            rw [← hso]
            rfl
          · rintro rfl; rfl
        by_cases ho : o = []
        · rw [if_pos ho, List.append_nil] at hstep
          have hz0 := hz.2 ho
          rw [hz0] at e4
          repeat (first | refine awp_seq ?_ | refine then_n ?_ | refine then_r ?_ | refine then_x ?_ | refine block_n ?_ | refine block_r ?_ | refine block_x ?_ | refine u_y ?_ | refine loop_r ?_ | refine loop_x ?_ | refine awp_region ?_ | refine awpL_nil ?_ | refine awpQL_nil ?_ | refine awp_block ?_ | refine awp_skip ?_ | refine awp_exit ?_ | refine awp_label ?_ | refine u_dT ?_ | refine u_d ?_ | ((first | apply c_l | apply c_q | apply c_lr | apply c_qr); (iterate 2 exact rfl); (focus (first | exact e2 | exact e3 | exact e4)); (iterate 2 exact rfl)) | (apply v_c; (iterate 4 exact rfl); (focus (first | exact e2 | exact e3 | exact e4)); (iterate 2 exact rfl)) | refine u_l ?_ | refine u_o ?_ | refine u_q ?_ | refine u_lr ?_ | refine u_qr ?_ | refine u_ls ?_ | refine u_qs ?_ | refine u_t ?_ | refine u_f ?_ | refine v_s ?_ | refine v_o ?_ | refine v_on ?_ | refine v_og ?_ | refine v_q ?_ | refine v_sr ?_ | refine v_k ?_ | refine m_nil ?_)
          refine loop_n (k + 1) (by omega) ?_ ?_ (by omega)
          · ((repeat (first | exact trivial | (refine ⟨?_, ?_⟩; (focus (first | rfl | (simp [lk, argsS, args0]; done) | (simp [lk, argsS, args0]; omega)))))))
          · rw [hstep]
        · rw [if_neg ho] at hstep
          have hz0 : ¬ bitsL 0 o = 0 := fun e => ho (hz.1 e)
          generalize bitsL 0 o = g at *
          repeat (first | refine awp_seq ?_ | refine then_n ?_ | refine then_r ?_ | refine then_x ?_ | refine block_n ?_ | refine block_r ?_ | refine block_x ?_ | refine u_y ?_ | refine loop_r ?_ | refine loop_x ?_ | refine awp_region ?_ | refine awpL_nil ?_ | refine awpQL_nil ?_ | refine awp_block ?_ | refine awp_skip ?_ | refine awp_exit ?_ | refine awp_label ?_ | refine u_dT ?_ | refine u_d ?_ | ((first | apply c_l | apply c_q | apply c_lr | apply c_qr); (iterate 2 exact rfl); (focus (first | exact e2 | exact e3 | exact e4)); (iterate 2 exact rfl)) | (apply v_c; (iterate 4 exact rfl); (focus (first | exact e2 | exact e3 | exact e4)); (iterate 2 exact rfl)) | refine u_l ?_ | refine u_o ?_ | refine u_q ?_ | refine u_lr ?_ | refine u_qr ?_ | refine u_ls ?_ | refine u_qs ?_ | refine u_t ?_ | refine u_f ?_ | refine v_s ?_ | refine v_o ?_ | refine v_on ?_ | refine v_og ?_ | refine v_q ?_ | refine v_sr ?_ | refine v_k ?_ | refine m_nil ?_)
          refine hcl [] [(30000, 500)] e5 ?_
          (apply lto; (focus (apply wo_litRow; (iterate 11 exact rfl))))
          (apply lto; (focus (apply wo_appendRows; (iterate 19 exact rfl); (simp; omega))))
          repeat (first | refine awp_seq ?_ | refine then_n ?_ | refine then_r ?_ | refine then_x ?_ | refine block_n ?_ | refine block_r ?_ | refine block_x ?_ | refine u_y ?_ | refine loop_r ?_ | refine loop_x ?_ | refine awp_region ?_ | refine awpL_nil ?_ | refine awpQL_nil ?_ | refine awp_block ?_ | refine awp_skip ?_ | refine awp_exit ?_ | refine awp_label ?_ | refine u_dT ?_ | refine u_d ?_ | refine u_l ?_ | refine u_o ?_ | refine u_q ?_ | refine u_lr ?_ | refine u_qr ?_ | refine u_ls ?_ | refine u_qs ?_ | refine u_t ?_ | refine u_f ?_ | refine v_s ?_ | refine v_o ?_ | refine v_on ?_ | refine v_og ?_ | refine v_q ?_ | refine v_sr ?_ | refine v_k ?_ | refine m_nil ?_)
          have hr : rws (clsL lp L k ++ [o]) = rws (clsL lp L k) ++ [o.map (.int .i64)] := by simp [rws]
          refine loop_n (k + 1) (by omega) ?_ ?_ (by omega)
          · ((repeat (first | exact trivial | (refine ⟨?_, ?_⟩; (focus (first | rfl | (simp [lk, argsS, args0]; done) | (simp [lk, argsS, args0]; omega)))))))
          · rw [hstep, hr]; rfl
      · have : k = 4 := by omega
        subst this
        repeat (first | refine awp_seq ?_ | refine then_n ?_ | refine then_r ?_ | refine then_x ?_ | refine block_n ?_ | refine block_r ?_ | refine block_x ?_ | refine u_y ?_ | refine loop_r ?_ | refine loop_x ?_ | refine awp_region ?_ | refine awpL_nil ?_ | refine awpQL_nil ?_ | refine awp_block ?_ | refine awp_skip ?_ | refine awp_exit ?_ | refine awp_label ?_ | refine u_dT ?_ | refine u_d ?_ | refine u_l ?_ | refine u_o ?_ | refine u_q ?_ | refine u_lr ?_ | refine u_qr ?_ | refine u_ls ?_ | refine u_qs ?_ | refine u_t ?_ | refine u_f ?_ | refine v_s ?_ | refine v_o ?_ | refine v_on ?_ | refine v_og ?_ | refine v_q ?_ | refine v_sr ?_ | refine v_k ?_ | refine m_nil ?_)
        (refine awp_ret ?_; (repeat (first | refine then_r ?_ | refine block_r ?_ | refine loop_r ?_)); refine u_rH [(10, 30000)] ?_ ?_)
        · rfl
        · rfl
  · have hv' : litOk s nx lp = false := by simpa using hv
    rw [if_neg (by simp [hv'])]
    rw [hv'] at e1
    refine hc_intro tabIs _ Try.func22 rfl rfl Try.ntmps22 rfl rfl rfl ?_ fun w0 ok0 XM XA anc => ?_
    · exact likeIn_nil
    repeat (first | refine awp_seq ?_ | refine then_n ?_ | refine then_r ?_ | refine then_x ?_ | refine block_n ?_ | refine block_r ?_ | refine block_x ?_ | refine u_y ?_ | refine loop_r ?_ | refine loop_x ?_ | refine awp_region ?_ | refine awpL_nil ?_ | refine awpQL_nil ?_ | refine awp_block ?_ | refine awp_skip ?_ | refine awp_exit ?_ | refine awp_label ?_ | refine u_dT ?_ | refine u_d ?_ | ((first | apply c_l | apply c_q | apply c_lr | apply c_qr); (iterate 2 exact rfl); (focus (first | exact e1)); (iterate 2 exact rfl)) | (apply v_c; (iterate 4 exact rfl); (focus (first | exact e1)); (iterate 2 exact rfl)) | refine u_l ?_ | refine u_o ?_ | refine u_q ?_ | refine u_lr ?_ | refine u_qr ?_ | refine u_ls ?_ | refine u_qs ?_ | refine u_t ?_ | refine u_f ?_ | refine v_s ?_ | refine v_o ?_ | refine v_on ?_ | refine v_og ?_ | refine v_q ?_ | refine v_sr ?_ | refine v_k ?_ | refine m_nil ?_)
    refine awp_nilSlot 2 7777 27 1 rfl rfl rfl ?_
    refine awp_toRows 7777 2 1 rfl rfl rfl rfl ?_
    (refine awp_ret ?_; (repeat (first | refine then_r ?_ | refine block_r ?_ | refine loop_r ?_)); refine u_rH [(7777, 30000)] ?_ ?_)
    · rfl
    · rfl
end Go.Proofs.Ytampglcgipefnaa
