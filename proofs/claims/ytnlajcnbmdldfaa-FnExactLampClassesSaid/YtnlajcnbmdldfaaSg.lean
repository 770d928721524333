/- LampClasses, in the reference and in the program, and its law. No condition. -/
import Derived.Test.YtnlajcnbmdldfaaSf
namespace Go.Proofs.Ytnlajcnbmdldfaa
open Go
attribute [local irreducible] awp awpL awpQL awpQ Qt AC thenQ blockQ loopQ OpTo
set_option linter.unusedVariables false
set_option linter.unusedSimpArgs false
set_option maxHeartbeats 2000000
attribute [local irreducible] HC

theorem mem_mk1 : ∀ (n : Nat) (k q : Int), q ∈ mk1 k n ↔ k ≤ q ∧ q < k + n
  | 0, k, q => by simp [mk1]
  | n + 1, k, q => by
    simp only [mk1, List.mem_cons, mem_mk1 n]
    omega
theorem mk1_pairwise : ∀ (n : Nat) (k : Int), (mk1 k n).Pairwise (· < ·)
  | 0, _ => List.Pairwise.nil
  | n + 1, k => List.pairwise_cons.2 ⟨fun q hq => by have := (mem_mk1 n (k + 1) q).1 hq; omega, mk1_pairwise n (k + 1)⟩

theorem spec_l01All {s : Int} (hs : 0 ≤ s ∧ s ≤ 100) : AC Try.prog 74 [.int .i64 s] (ints (mk1 0 s.toNat)) := by
  refine ac_intro tabIs _ Try.func74 rfl rfl Try.ntmps74 rfl rfl fun w0 ok0 => ?_
  repeat (first | refine awp_seq ?_ | refine then_n ?_ | refine then_r ?_ | refine then_x ?_ | refine block_n ?_ | refine block_r ?_ | refine block_x ?_ | refine u_y ?_ | refine loop_r ?_ | refine loop_x ?_ | refine awp_region ?_ | refine awpL_nil ?_ | refine awpQL_nil ?_ | refine awp_block ?_ | refine awp_skip ?_ | refine awp_exit ?_ | refine awp_label ?_ | refine u_dT ?_ | refine u_d ?_ | refine u_w (t := 5) ?_ | refine u_l ?_ | refine u_o ?_ | refine u_q ?_ | refine u_lr ?_ | refine u_qr ?_ | refine u_ls ?_ | refine u_qs ?_ | refine u_t ?_ | refine u_f ?_)
  refine awp_loop (fun k : Nat => (k : Int) ≤ s) (fun k => [(0, .d (.int .i64 s)), (3, .own 5), (4, .d (.int .i64 k))]) (fun k => [(5, .arr 2 1 ((mk1 0 k).map (.int .i64)))]) (fun k => s.toNat - k) 0 (by omega) ?_ rfl ?_
  · ((repeat (first | exact trivial | (refine ⟨?_, ?_⟩; (focus (first | rfl | (simp [lk, argsS, args0]; done) | (simp [lk, argsS, args0]; omega)))))))
  · intro k hk
    have hm := mk1_length k 0
    by_cases hlt : (k : Int) < s
    · repeat (first | refine awp_seq ?_ | refine then_n ?_ | refine then_r ?_ | refine then_x ?_ | refine block_n ?_ | refine block_r ?_ | refine block_x ?_ | refine u_y ?_ | refine loop_r ?_ | refine loop_x ?_ | refine awp_region ?_ | refine awpL_nil ?_ | refine awpQL_nil ?_ | refine awp_block ?_ | refine awp_skip ?_ | refine awp_exit ?_ | refine awp_label ?_ | refine u_dT ?_ | refine u_d ?_ | refine u_l ?_ | refine u_o ?_ | refine u_q ?_ | refine u_lr ?_ | refine u_qr ?_ | refine u_ls ?_ | refine u_qs ?_ | refine u_t ?_ | refine u_f ?_)
      refine loop_n (k + 1) (by omega) ?_ ?_ (by omega)
      · ((repeat (first | exact trivial | (refine ⟨?_, ?_⟩; (focus (first | rfl | (simp [lk, argsS, args0]; done) | (simp [lk, argsS, args0]; omega)))))))
      · rw [mk1_snoc]; simp [killH, keepH, memB]
    · have : k = s.toNat := by omega
      subst this
      repeat (first | refine awp_seq ?_ | refine then_n ?_ | refine then_r ?_ | refine then_x ?_ | refine block_n ?_ | refine block_r ?_ | refine block_x ?_ | refine u_y ?_ | refine loop_r ?_ | refine loop_x ?_ | refine awp_region ?_ | refine awpL_nil ?_ | refine awpQL_nil ?_ | refine awp_block ?_ | refine awp_skip ?_ | refine awp_exit ?_ | refine awp_label ?_ | refine u_dT ?_ | refine u_d ?_ | refine u_l ?_ | refine u_o ?_ | refine u_q ?_ | refine u_lr ?_ | refine u_qr ?_ | refine u_ls ?_ | refine u_qs ?_ | refine u_t ?_ | refine u_f ?_)
      (refine awp_ret ?_; (repeat (first | refine then_r ?_ | refine block_r ?_ | refine loop_r ?_)); apply ret_ok (.inr rfl); (focus exact rfl))
      rfl

theorem impl_atNil {s q : Int} {nx : List (List Int)} : AC Try.prog 163 [.agg [.int .i64 s, rows nx], .int .i64 q, .nils] (.int .i64 q) := by
  refine ac_intro tabIs _ Try.func163 rfl rfl Try.ntmps163 rfl rfl fun w0 ok0 => ?_
  repeat (first | refine awp_seq ?_ | refine then_n ?_ | refine then_r ?_ | refine then_x ?_ | refine block_n ?_ | refine block_r ?_ | refine block_x ?_ | refine u_y ?_ | refine loop_r ?_ | refine loop_x ?_ | refine awp_region ?_ | refine awpL_nil ?_ | refine awpQL_nil ?_ | refine awp_block ?_ | refine awp_skip ?_ | refine awp_exit ?_ | refine awp_label ?_ | refine u_dT ?_ | refine u_d ?_ | refine u_l ?_ | refine u_o ?_ | refine u_q ?_ | refine u_lr ?_ | refine u_qr ?_ | refine u_ls ?_ | refine u_qs ?_ | refine u_t ?_ | refine u_f ?_)
  refine awp_loop (fun k : Nat => k = 0) (fun _ => [(1, .d (.int .i64 q)), (10, .d (.int .i64 0)), (11, .d (.int .i64 0))]) (fun _ => []) (fun _ => 0) 0 rfl ?_ rfl ?_
  · ((repeat (first | exact trivial | (refine ⟨?_, ?_⟩; (focus (first | rfl | (simp [lk, argsS, args0]; done) | (simp [lk, argsS, args0]; omega)))))))
  · rintro k rfl
    repeat (first | refine awp_seq ?_ | refine then_n ?_ | refine then_r ?_ | refine then_x ?_ | refine block_n ?_ | refine block_r ?_ | refine block_x ?_ | refine u_y ?_ | refine loop_r ?_ | refine loop_x ?_ | refine awp_region ?_ | refine awpL_nil ?_ | refine awpQL_nil ?_ | refine awp_block ?_ | refine awp_skip ?_ | refine awp_exit ?_ | refine awp_label ?_ | refine u_dT ?_ | refine u_d ?_ | refine u_l ?_ | refine u_o ?_ | refine u_q ?_ | refine u_lr ?_ | refine u_qr ?_ | refine u_ls ?_ | refine u_qs ?_ | refine u_t ?_ | refine u_f ?_)
    (refine awp_ret ?_; (repeat (first | refine then_r ?_ | refine block_r ?_ | refine loop_r ?_)); apply ret_ok (.inr rfl); (focus exact rfl))
    rfl

theorem impl_actionNil {s : Int} {nx : List (List Int)} (hs : 0 ≤ s ∧ s ≤ 100) : AC Try.prog 133 [.agg [.int .i64 s, rows nx], .nils] (ints (mk1 0 s.toNat)) := by
  refine ac_intro tabIs _ Try.func133 rfl rfl Try.ntmps133 rfl rfl fun w0 ok0 => ?_
  repeat (first | refine awp_seq ?_ | refine then_n ?_ | refine then_r ?_ | refine then_x ?_ | refine block_n ?_ | refine block_r ?_ | refine block_x ?_ | refine u_y ?_ | refine loop_r ?_ | refine loop_x ?_ | refine awp_region ?_ | refine awpL_nil ?_ | refine awpQL_nil ?_ | refine awp_block ?_ | refine awp_skip ?_ | refine awp_exit ?_ | refine awp_label ?_ | refine u_dT ?_ | refine u_d ?_ | refine u_w (t := 7) ?_ | refine u_l ?_ | refine u_o ?_ | refine u_q ?_ | refine u_lr ?_ | refine u_qr ?_ | refine u_ls ?_ | refine u_qs ?_ | refine u_t ?_ | refine u_f ?_)
  refine awp_loop (fun k : Nat => (k : Int) ≤ s) (fun k => [(1, .d .nils), (2, .d (.ptr (.agg [.int .i64 s, rows nx]))), (5, .own 7), (9, .d (.int .i64 s)), (10, .d (.int .i64 k))]) (fun k => [(7, .arr 2 1 ((mk1 0 k).map (.int .i64)))]) (fun k => s.toNat - k) 0 (by omega) ?_ rfl ?_
  · ((repeat (first | exact trivial | (refine ⟨?_, ?_⟩; (focus (first | rfl | (simp [lk, argsS, args0]; done) | (simp [lk, argsS, args0]; omega)))))))
  · intro k hk
    have hm := mk1_length k 0
    have e1 := impl_atNil (s := s) (q := (k : Int)) (nx := nx)
    by_cases hlt : (k : Int) < s
    · repeat (first | refine awp_seq ?_ | refine then_n ?_ | refine then_r ?_ | refine then_x ?_ | refine block_n ?_ | refine block_r ?_ | refine block_x ?_ | refine u_y ?_ | refine loop_r ?_ | refine loop_x ?_ | refine awp_region ?_ | refine awpL_nil ?_ | refine awpQL_nil ?_ | refine awp_block ?_ | refine awp_skip ?_ | refine awp_exit ?_ | refine awp_label ?_ | refine u_dT ?_ | refine u_d ?_ | ((first | apply c_l | apply c_q | apply c_lr | apply c_qr); (iterate 2 exact rfl); (focus (first | exact e1)); (iterate 2 exact rfl)) | refine u_l ?_ | refine u_o ?_ | refine u_q ?_ | refine u_lr ?_ | refine u_qr ?_ | refine u_ls ?_ | refine u_qs ?_ | refine u_t ?_ | refine u_f ?_)
      refine loop_n (k + 1) (by omega) ?_ ?_ (by omega)
      · ((repeat (first | exact trivial | (refine ⟨?_, ?_⟩; (focus (first | rfl | (simp [lk, argsS, args0]; done) | (simp [lk, argsS, args0]; omega)))))))
      · rw [mk1_snoc]; simp [killH, keepH, memB]
    · have : k = s.toNat := by omega
      subst this
      repeat (first | refine awp_seq ?_ | refine then_n ?_ | refine then_r ?_ | refine then_x ?_ | refine block_n ?_ | refine block_r ?_ | refine block_x ?_ | refine u_y ?_ | refine loop_r ?_ | refine loop_x ?_ | refine awp_region ?_ | refine awpL_nil ?_ | refine awpQL_nil ?_ | refine awp_block ?_ | refine awp_skip ?_ | refine awp_exit ?_ | refine awp_label ?_ | refine u_dT ?_ | refine u_d ?_ | refine u_l ?_ | refine u_o ?_ | refine u_q ?_ | refine u_lr ?_ | refine u_qr ?_ | refine u_ls ?_ | refine u_qs ?_ | refine u_t ?_ | refine u_f ?_)
      (refine awp_ret ?_; (repeat (first | refine then_r ?_ | refine block_r ?_ | refine loop_r ?_)); apply ret_ok (.inr rfl); (focus exact rfl))
      rfl

theorem impl_all {s : Int} {nx : List (List Int)} (hs : 0 ≤ s ∧ s ≤ 100) : AC Try.prog 79 [.agg [.int .i64 s, rows nx]] (ints (mk1 0 s.toNat)) := by
  have e1 := impl_actionNil (nx := nx) hs
  refine ac_intro tabIs _ Try.func79 rfl rfl Try.ntmps79 rfl rfl fun w0 ok0 => ?_
  repeat (first | refine awp_seq ?_ | refine then_n ?_ | refine then_r ?_ | refine then_x ?_ | refine block_n ?_ | refine block_r ?_ | refine block_x ?_ | refine u_y ?_ | refine loop_r ?_ | refine loop_x ?_ | refine awp_region ?_ | refine awpL_nil ?_ | refine awpQL_nil ?_ | refine awp_block ?_ | refine awp_skip ?_ | refine awp_exit ?_ | refine awp_label ?_ | refine u_dT ?_ | refine u_d ?_ | ((first | apply c_l | apply c_q | apply c_lr | apply c_qr); (iterate 2 exact rfl); (focus (first | exact e1)); (iterate 2 exact rfl)) | refine u_l ?_ | refine u_o ?_ | refine u_q ?_ | refine u_lr ?_ | refine u_qr ?_ | refine u_ls ?_ | refine u_qs ?_ | refine u_t ?_ | refine u_f ?_)
  (refine awp_ret ?_; (repeat (first | refine then_r ?_ | refine block_r ?_ | refine loop_r ?_)); apply ret_ok (.inr rfl); (focus exact rfl))
  rfl

/-- The states of each lamp, where there are any. -/
def clsL (lp L : List Int) : Nat → List (List Int)
  | 0 => []
  | k + 1 => clsL lp L k ++ if (L.filter fun q => decide (lamp lp q = k)) = [] then [] else [L.filter fun q => decide (lamp lp q = k)]
theorem clsL_len (lp L : List Int) : ∀ k, (clsL lp L k).length ≤ k
  | 0 => Nat.le_refl _
  | k + 1 => by
    have := clsL_len lp L k
    unfold clsL
    rw [List.length_append]
    split <;> simp <;> omega
theorem clsL_mem (lp L : List Int) : ∀ k, ∀ l ∈ clsL lp L k, l.length ≤ L.length
  | 0, _, h => by cases h
  | k + 1, l, h => by
    unfold clsL at h
    rcases List.mem_append.1 h with h | h
    · exact clsL_mem lp L k l h
    · split at h
      · cases h
      · simp only [List.mem_singleton] at h
        subst h
        exact List.length_filter_le ..

theorem clsL_el (lp L : List Int) : ∀ k, ∀ l ∈ clsL lp L k, ∀ q ∈ l, q ∈ L
  | 0, _, h => by cases h
  | k + 1, l, h => by
    unfold clsL at h
    rcases List.mem_append.1 h with h | h
    · exact clsL_el lp L k l h
    · split at h
      · cases h
      · simp only [List.mem_singleton] at h
        subst h
        exact fun q hq => (List.mem_filter.1 hq).1

/-- What LampClasses answers. -/
def lcD (s : Int) (nx : List (List Int)) (lp : List Int) : List (List Int) × Int := if litOk s nx lp then (clsL lp (mk1 0 s.toNat) 4, 0) else ([], 1)

theorem spec_LampClasses {s : Int} {nx : List (List Int)} {lp : List Int} (h : RowsOk nx) (h2 : lp.length ≤ 9223372036854775807) :
    AC Try.prog 30 [.agg [.int .i64 s, rows nx, ints lp]] (.tup [rows (lcD s nx lp).1, .int .i64 (lcD s nx lp).2]) := by
  have e1 := spec_l08Ok (s := s) (nx := nx) (lp := lp) h h2
  unfold lcD
  by_cases hv : litOk s nx lp = true
  · rw [if_pos hv]
    rw [hv] at e1
    have v := lv_of hv
    have hs := v.s1
    have e2 := spec_l01All (s := s) (by omega)
    have hL : ∀ q ∈ mk1 0 s.toNat, 0 ≤ q ∧ q < s := fun q hq => by have := (mem_mk1 _ _ q).1 hq; omega
    have hLn : (mk1 0 s.toNat).length ≤ 1000 := by rw [mk1_length]; omega
    generalize mk1 0 s.toNat = L at *
    refine ac_intro tabIs _ Try.func30 rfl rfl Try.ntmps30 rfl rfl fun w0 ok0 => ?_
    repeat (first | refine awp_seq ?_ | refine then_n ?_ | refine then_r ?_ | refine then_x ?_ | refine block_n ?_ | refine block_r ?_ | refine block_x ?_ | refine u_y ?_ | refine loop_r ?_ | refine loop_x ?_ | refine awp_region ?_ | refine awpL_nil ?_ | refine awpQL_nil ?_ | refine awp_block ?_ | refine awp_skip ?_ | refine awp_exit ?_ | refine awp_label ?_ | refine u_dT ?_ | refine u_d ?_ | refine u_w (t := 10) ?_ | ((first | apply c_l | apply c_q | apply c_lr | apply c_qr); (iterate 2 exact rfl); (focus (first | exact e1)); (iterate 2 exact rfl)) | refine u_l ?_ | refine u_o ?_ | refine u_q ?_ | refine u_lr ?_ | refine u_qr ?_ | refine u_ls ?_ | refine u_qs ?_ | refine u_t ?_ | refine u_f ?_)
    refine awp_loop (fun k : Nat => k ≤ 4) (fun k => [(1, .d (.ptr (.agg [.int .i64 s, rows nx, ints lp]))), (4, .own 10), (5, .d (.int .i64 k))]) (fun k => [(10, .arr 43 1 ((clsL lp L k).map ints))]) (fun k => 4 - k) 0 (by omega) ?_ rfl ?_
    · ((repeat (first | exact trivial | (refine ⟨?_, ?_⟩; (focus (first | rfl | (simp [lk, argsS, args0]; done) | (simp [lk, argsS, args0]; omega)))))))
    · intro k hk
      have hcc := clsL_len lp L k
      by_cases hlt : k < 4
      · have e3 := spec_l08With (x := (k : Int)) v hL hLn
        have hstep : clsL lp L (k + 1) = clsL lp L k ++ if (L.filter fun q => decide (lamp lp q = k)) = [] then [] else [L.filter fun q => decide (lamp lp q = k)] := rfl
        have hfl := List.length_filter_le (fun q => decide (lamp lp q = k)) L
        generalize (L.filter fun q => decide (lamp lp q = k)) = o at *
        by_cases ho : o = []
        · subst ho
          rw [if_pos rfl, List.append_nil] at hstep
          repeat (first | refine awp_seq ?_ | refine then_n ?_ | refine then_r ?_ | refine then_x ?_ | refine block_n ?_ | refine block_r ?_ | refine block_x ?_ | refine u_y ?_ | refine loop_r ?_ | refine loop_x ?_ | refine awp_region ?_ | refine awpL_nil ?_ | refine awpQL_nil ?_ | refine awp_block ?_ | refine awp_skip ?_ | refine awp_exit ?_ | refine awp_label ?_ | refine u_dT ?_ | refine u_d ?_ | ((first | apply c_l | apply c_q | apply c_lr | apply c_qr); (iterate 2 exact rfl); (focus (first | exact e2 | exact e3)); (iterate 2 exact rfl)) | refine u_l ?_ | refine u_o ?_ | refine u_q ?_ | refine u_lr ?_ | refine u_qr ?_ | refine u_ls ?_ | refine u_qs ?_ | refine u_t ?_ | refine u_f ?_)
          refine loop_n (k + 1) (by omega) ?_ ?_ (by omega)
          · ((repeat (first | exact trivial | (refine ⟨?_, ?_⟩; (focus (first | rfl | (simp [lk, argsS, args0]; done) | (simp [lk, argsS, args0]; omega)))))))
          · rw [hstep]
        · have hpos : 0 < o.length := List.length_pos_iff.2 ho
          rw [if_neg ho] at hstep
          repeat (first | refine awp_seq ?_ | refine then_n ?_ | refine then_r ?_ | refine then_x ?_ | refine block_n ?_ | refine block_r ?_ | refine block_x ?_ | refine u_y ?_ | refine loop_r ?_ | refine loop_x ?_ | refine awp_region ?_ | refine awpL_nil ?_ | refine awpQL_nil ?_ | refine awp_block ?_ | refine awp_skip ?_ | refine awp_exit ?_ | refine awp_label ?_ | refine u_dT ?_ | refine u_d ?_ | ((first | apply c_l | apply c_q | apply c_lr | apply c_qr); (iterate 2 exact rfl); (focus (first | exact e2 | exact e3)); (iterate 2 exact rfl)) | refine u_l ?_ | refine u_o ?_ | refine u_q ?_ | refine u_lr ?_ | refine u_qr ?_ | refine u_ls ?_ | refine u_qs ?_ | refine u_t ?_ | refine u_f ?_)
          refine loop_n (k + 1) (by omega) ?_ ?_ (by omega)
          · ((repeat (first | exact trivial | (refine ⟨?_, ?_⟩; (focus (first | rfl | (simp [lk, argsS, args0]; done) | (simp [lk, argsS, args0]; omega)))))))
          · rw [hstep]; simp [killH, keepH, memB]
      · have : k = 4 := by omega
        subst this
        repeat (first | refine awp_seq ?_ | refine then_n ?_ | refine then_r ?_ | refine then_x ?_ | refine block_n ?_ | refine block_r ?_ | refine block_x ?_ | refine u_y ?_ | refine loop_r ?_ | refine loop_x ?_ | refine awp_region ?_ | refine awpL_nil ?_ | refine awpQL_nil ?_ | refine awp_block ?_ | refine awp_skip ?_ | refine awp_exit ?_ | refine awp_label ?_ | refine u_dT ?_ | refine u_d ?_ | refine u_l ?_ | refine u_o ?_ | refine u_q ?_ | refine u_lr ?_ | refine u_qr ?_ | refine u_ls ?_ | refine u_qs ?_ | refine u_t ?_ | refine u_f ?_)
        (refine awp_ret ?_; (repeat (first | refine then_r ?_ | refine block_r ?_ | refine loop_r ?_)); apply ret_ok (.inr rfl); (focus exact rfl))
        rfl
  · have hv' : litOk s nx lp = false := by simpa using hv
    rw [if_neg (by simp [hv'])]
    rw [hv'] at e1
    refine ac_intro tabIs _ Try.func30 rfl rfl Try.ntmps30 rfl rfl fun w0 ok0 => ?_
    repeat (first | refine awp_seq ?_ | refine then_n ?_ | refine then_r ?_ | refine then_x ?_ | refine block_n ?_ | refine block_r ?_ | refine block_x ?_ | refine u_y ?_ | refine loop_r ?_ | refine loop_x ?_ | refine awp_region ?_ | refine awpL_nil ?_ | refine awpQL_nil ?_ | refine awp_block ?_ | refine awp_skip ?_ | refine awp_exit ?_ | refine awp_label ?_ | refine u_dT ?_ | refine u_d ?_ | ((first | apply c_l | apply c_q | apply c_lr | apply c_qr); (iterate 2 exact rfl); (focus (first | exact e1)); (iterate 2 exact rfl)) | refine u_l ?_ | refine u_o ?_ | refine u_q ?_ | refine u_lr ?_ | refine u_qr ?_ | refine u_ls ?_ | refine u_qs ?_ | refine u_t ?_ | refine u_f ?_)
    (refine awp_ret ?_; (repeat (first | refine then_r ?_ | refine block_r ?_ | refine loop_r ?_)); apply ret_ok (.inr rfl); (focus exact rfl))
    rfl

theorem impl_LampClassesH {s : Int} {nx : List (List Int)} {lp : List Int} (h : RowsOk nx) (h2 : lp.length ≤ 9223372036854775807) :
    HC Try.prog 32 [.d (.agg [.int .i64 s, rows nx, ints lp])] [] (.tup [.own 30000, .d (.int .i64 (lcD s nx lp).2)]) [(30000, .rows 43 2 1 (rws (lcD s nx lp).1) none)] := by
  have e1 := impl_ValidLit (s := s) (nx := nx) (lp := lp) h h2
  unfold lcD
  by_cases hv : litOk s nx lp = true
  · rw [if_pos hv]
    rw [hv] at e1
    have v := lv_of hv
    have hs := v.s1
    have e2 := impl_all (s := s) (nx := nx) (by omega)
    have hL : ∀ q ∈ mk1 0 s.toNat, 0 ≤ q ∧ q < s := fun q hq => by have := (mem_mk1 _ _ q).1 hq; omega
    have hLp := mk1_pairwise s.toNat 0
    have hLn : (mk1 0 s.toNat).length ≤ 1000 := by rw [mk1_length]; omega
    generalize mk1 0 s.toNat = L at *
    have hl64 : ∀ q ∈ L, 0 ≤ q ∧ q < 64 := fun q hq => by have := hL q hq; omega
    have e3 := impl_flockOf hl64 (by omega)
    have hb := bitsL_lt L 0 (by omega) fun q hq => by have := hl64 q hq; omega
    have hset : setN (bitsL 0 L) = L := setN_bits hl64 hLp
    refine hc_intro tabIs _ Try.func32 rfl rfl Try.ntmps32 rfl rfl rfl ?_ fun w0 ok0 XM XA anc => ?_
    · exact likeIn_nil
    repeat (first | refine awp_seq ?_ | refine then_n ?_ | refine then_r ?_ | refine then_x ?_ | refine block_n ?_ | refine block_r ?_ | refine block_x ?_ | refine u_y ?_ | refine loop_r ?_ | refine loop_x ?_ | refine awp_region ?_ | refine awpL_nil ?_ | refine awpQL_nil ?_ | refine awp_block ?_ | refine awp_skip ?_ | refine awp_exit ?_ | refine awp_label ?_ | refine u_dT ?_ | refine u_d ?_ | refine u_w (t := 10) ?_ | ((first | apply c_l | apply c_q | apply c_lr | apply c_qr); (iterate 2 exact rfl); (focus (first | exact e1)); (iterate 2 exact rfl)) | refine u_l ?_ | refine u_o ?_ | refine u_q ?_ | refine u_lr ?_ | refine u_qr ?_ | refine u_ls ?_ | refine u_qs ?_ | refine u_t ?_ | refine u_f ?_)
    refine awp_toRows 10 2 1 rfl rfl rfl rfl ?_
    refine awp_loop (fun k : Nat => k ≤ 4) (fun k => [(1, .d (.ptr (.agg [.int .i64 s, rows nx, ints lp]))), (4, .own 10), (11, .d (.int .i64 k))]) (fun k => [(10, .rows 43 2 1 (rws (clsL lp L k)) none)]) (fun k => 4 - k) 0 (by omega) ?_ rfl ?_
    · ((repeat (first | exact trivial | (refine ⟨?_, ?_⟩; (focus (first | rfl | (simp [lk, argsS, args0]; done) | (simp [lk, argsS, args0]; omega)))))))
    · intro k hk
      have hcc := clsL_len lp L k
      have hrl := rws_length (clsL lp L k)
      by_cases hlt : k < 4
      · have e4 := impl_lampSet (x := (k : Int)) v hb (by rw [hset]; exact hL)
        rw [hset] at e4
        have hstep : clsL lp L (k + 1) = clsL lp L k ++ if (L.filter fun q => decide (lamp lp q = k)) = [] then [] else [L.filter fun q => decide (lamp lp q = k)] := rfl
        have hfl := List.length_filter_le (fun q => decide (lamp lp q = k)) L
        have ho64 : ∀ q ∈ L.filter (fun q => decide (lamp lp q = k)), 0 ≤ q ∧ q < 64 := fun q hq => hl64 q (List.mem_filter.1 hq).1
        have hop : (L.filter fun q => decide (lamp lp q = k)).Pairwise (· < ·) := List.Pairwise.filter _ hLp
        generalize (L.filter fun q => decide (lamp lp q = k)) = o at *
        have hso : setN (bitsL 0 o) = o := setN_bits ho64 hop
        have hbo := bitsL_lt o 0 (by omega) fun q hq => by have := ho64 q hq; omega
        have e5 := impl_setH hbo
        rw [hso] at e5
        have hz : bitsL 0 o = 0 ↔ o = [] := by
          constructor
          · intro e
            rw [e] at hso
            rw [← hso]
            rfl
          · rintro rfl; rfl
        by_cases ho : o = []
        · rw [if_pos ho, List.append_nil] at hstep
          have hz0 := hz.2 ho
          rw [hz0] at e4
          repeat (first | refine awp_seq ?_ | refine then_n ?_ | refine then_r ?_ | refine then_x ?_ | refine block_n ?_ | refine block_r ?_ | refine block_x ?_ | refine u_y ?_ | refine loop_r ?_ | refine loop_x ?_ | refine awp_region ?_ | refine awpL_nil ?_ | refine awpQL_nil ?_ | refine awp_block ?_ | refine awp_skip ?_ | refine awp_exit ?_ | refine awp_label ?_ | refine u_dT ?_ | refine u_d ?_ | ((first | apply c_l | apply c_q | apply c_lr | apply c_qr); (iterate 2 exact rfl); (focus (first | exact e2 | exact e3 | exact e4)); (iterate 2 exact rfl)) | refine u_l ?_ | refine u_o ?_ | refine u_q ?_ | refine u_lr ?_ | refine u_qr ?_ | refine u_ls ?_ | refine u_qs ?_ | refine u_t ?_ | refine u_f ?_)
          refine loop_n (k + 1) (by omega) ?_ ?_ (by omega)
          · ((repeat (first | exact trivial | (refine ⟨?_, ?_⟩; (focus (first | rfl | (simp [lk, argsS, args0]; done) | (simp [lk, argsS, args0]; omega)))))))
          · rw [hstep]
        · rw [if_neg ho] at hstep
          have hz0 : ¬ bitsL 0 o = 0 := fun e => ho (hz.1 e)
          generalize bitsL 0 o = g at *
          repeat (first | refine awp_seq ?_ | refine then_n ?_ | refine then_r ?_ | refine then_x ?_ | refine block_n ?_ | refine block_r ?_ | refine block_x ?_ | refine u_y ?_ | refine loop_r ?_ | refine loop_x ?_ | refine awp_region ?_ | refine awpL_nil ?_ | refine awpQL_nil ?_ | refine awp_block ?_ | refine awp_skip ?_ | refine awp_exit ?_ | refine awp_label ?_ | refine u_dT ?_ | refine u_d ?_ | ((first | apply c_l | apply c_q | apply c_lr | apply c_qr); (iterate 2 exact rfl); (focus (first | exact e2 | exact e3 | exact e4)); (iterate 2 exact rfl)) | refine u_l ?_ | refine u_o ?_ | refine u_q ?_ | refine u_lr ?_ | refine u_qr ?_ | refine u_ls ?_ | refine u_qs ?_ | refine u_t ?_ | refine u_f ?_)
          refine hcl [] [(30000, 500)] e5 ?_
          (apply lto; (focus (apply wo_litRow; (iterate 11 exact rfl))))
          (apply lto; (focus (apply wo_appendRows; (iterate 19 exact rfl); (simp; omega))))
          repeat (first | refine awp_seq ?_ | refine then_n ?_ | refine then_r ?_ | refine then_x ?_ | refine block_n ?_ | refine block_r ?_ | refine block_x ?_ | refine u_y ?_ | refine loop_r ?_ | refine loop_x ?_ | refine awp_region ?_ | refine awpL_nil ?_ | refine awpQL_nil ?_ | refine awp_block ?_ | refine awp_skip ?_ | refine awp_exit ?_ | refine awp_label ?_ | refine u_dT ?_ | refine u_d ?_ | refine u_l ?_ | refine u_o ?_ | refine u_q ?_ | refine u_lr ?_ | refine u_qr ?_ | refine u_ls ?_ | refine u_qs ?_ | refine u_t ?_ | refine u_f ?_)
          have hr : rws (clsL lp L k ++ [o]) = rws (clsL lp L k) ++ [o.map (.int .i64)] := by simp [rws]
          refine loop_n (k + 1) (by omega) ?_ ?_ (by omega)
          · ((repeat (first | exact trivial | (refine ⟨?_, ?_⟩; (focus (first | rfl | (simp [lk, argsS, args0]; done) | (simp [lk, argsS, args0]; omega)))))))
          · rw [hstep, hr]; rfl
      · have : k = 4 := by omega
        subst this
        repeat (first | refine awp_seq ?_ | refine then_n ?_ | refine then_r ?_ | refine then_x ?_ | refine block_n ?_ | refine block_r ?_ | refine block_x ?_ | refine u_y ?_ | refine loop_r ?_ | refine loop_x ?_ | refine awp_region ?_ | refine awpL_nil ?_ | refine awpQL_nil ?_ | refine awp_block ?_ | refine awp_skip ?_ | refine awp_exit ?_ | refine awp_label ?_ | refine u_dT ?_ | refine u_d ?_ | refine u_l ?_ | refine u_o ?_ | refine u_q ?_ | refine u_lr ?_ | refine u_qr ?_ | refine u_ls ?_ | refine u_qs ?_ | refine u_t ?_ | refine u_f ?_)
        (refine awp_ret ?_; (repeat (first | refine then_r ?_ | refine block_r ?_ | refine loop_r ?_)); refine u_rH [(10, 30000)] ?_ ?_)
        · rfl
        · rfl
  · have hv' : litOk s nx lp = false := by simpa using hv
    rw [if_neg (by simp [hv'])]
    rw [hv'] at e1
    refine hc_intro tabIs _ Try.func32 rfl rfl Try.ntmps32 rfl rfl rfl ?_ fun w0 ok0 XM XA anc => ?_
    · exact likeIn_nil
    repeat (first | refine awp_seq ?_ | refine then_n ?_ | refine then_r ?_ | refine then_x ?_ | refine block_n ?_ | refine block_r ?_ | refine block_x ?_ | refine u_y ?_ | refine loop_r ?_ | refine loop_x ?_ | refine awp_region ?_ | refine awpL_nil ?_ | refine awpQL_nil ?_ | refine awp_block ?_ | refine awp_skip ?_ | refine awp_exit ?_ | refine awp_label ?_ | refine u_dT ?_ | refine u_d ?_ | ((first | apply c_l | apply c_q | apply c_lr | apply c_qr); (iterate 2 exact rfl); (focus (first | exact e1)); (iterate 2 exact rfl)) | refine u_l ?_ | refine u_o ?_ | refine u_q ?_ | refine u_lr ?_ | refine u_qr ?_ | refine u_ls ?_ | refine u_qs ?_ | refine u_t ?_ | refine u_f ?_)
    refine awp_nilSlot 2 7777 43 1 rfl rfl rfl ?_
    refine awp_toRows 7777 2 1 rfl rfl rfl rfl ?_
    (refine awp_ret ?_; (repeat (first | refine then_r ?_ | refine block_r ?_ | refine loop_r ?_)); refine u_rH [(7777, 30000)] ?_ ?_)
    · rfl
    · rfl
theorem law_ExactLampClasses {s : Int} {nx : List (List Int)} {lp : List Int} (g1 : I64 s) (h1 : RowsOk nx) (h2 : IntsOk lp) :
    AC Try.prog 6 [.agg [.int .i64 s, rows nx, ints lp]] (.bool true) := by
  have hl := h2.2
  have hb : (0 : Int) ≤ 1048576 ∧ (1048576 : Int) ≤ 1048576 := by omega
  have e1 := laws_szLit (s := s) (nx := nx) (lp := lp) (left := 1048576) h1 hl hb
  by_cases hc : szLitF nx lp 1048576 < 0
  · refine ac_intro tabIs _ Try.func6 rfl rfl Try.ntmps6 rfl rfl fun w0 ok0 => ?_
    repeat (first | refine awp_seq ?_ | refine then_n ?_ | refine then_r ?_ | refine then_x ?_ | refine block_n ?_ | refine block_r ?_ | refine block_x ?_ | refine u_y ?_ | refine loop_r ?_ | refine loop_x ?_ | refine awp_region ?_ | refine awpL_nil ?_ | refine awpQL_nil ?_ | refine awp_block ?_ | refine awp_skip ?_ | refine awp_exit ?_ | refine awp_label ?_ | refine u_dT ?_ | refine u_d ?_ | ((first | apply c_l | apply c_q | apply c_lr | apply c_qr); (iterate 2 exact rfl); (focus (first | exact e1)); (iterate 2 exact rfl)) | refine u_l ?_ | refine u_o ?_ | refine u_q ?_ | refine u_lr ?_ | refine u_qr ?_ | refine u_ls ?_ | refine u_qs ?_ | refine u_t ?_ | refine u_f ?_)
    (refine awp_ret ?_; (repeat (first | refine then_r ?_ | refine block_r ?_ | refine loop_r ?_)); apply ret_ok (.inr rfl); (focus exact rfl))
    rfl
  · obtain ⟨a1, a2, a3⟩ := szLitF_ok hc
    have t1 := laws_toLit (s := s) a1 a2 a3
    have t3 := laws_toLitH (s := s) a1 a2 a3
    have f1 := spec_LampClasses (s := s) h1 hl
    have f2 := impl_LampClassesH (s := s) h1 hl
    have f3 := impl_LampClassesH (s := s) h1 hl
    have hbl : (lcD s nx lp).1.length ≤ 4 ∧ (∀ l ∈ (lcD s nx lp).1, l.length ≤ 10) ∧ ∀ l ∈ (lcD s nx lp).1, ∀ q ∈ l, 0 ≤ q ∧ q ≤ 10 := by
      unfold lcD
      split
      · rename_i hv
        have hs := (lv_of hv).s1
        refine ⟨clsL_len _ _ 4, fun l hm => ?_, fun l hm q hq => ?_⟩
        · have := clsL_mem _ _ 4 l hm
          rw [mk1_length] at this
          omega
        · have := (mem_mk1 _ _ q).1 (clsL_el _ _ 4 l hm q hq)
          omega
      · simp
    rw [← rws_dat] at f3
    have htot := tot_bound a2
    have htb : tot nx ≤ 1048576 * 1048576 := Nat.le_trans htot (Nat.mul_le_mul_right _ a1)
    have m1 := laws_markLit (s := s) (nx := nx) (lp := lp) (k := 1) (by omega) (by omega) (by omega)
    generalize lcD s nx lp = o at *
    have hto := tot_bound hbl.2.1
    have m3 := laws_markInt64SS (nss := o.1) (k := 1) (by omega) (by omega) (by omega)
    have d3 := laws_heldInt64SS (nss := o.1) (k := 1) (by omega) (by omega) (by omega)
    rw [← rws_dat] at d3
    have hro : RowsOk o.1 := ⟨fun l hm => ⟨fun q hq => by have := hbl.2.2 l hm q hq; unfold I64; omega, by have := hbl.2.1 l hm; omega⟩, by omega⟩
    have q1 : AC Try.prog 21 [.lst ((rws o.1).map D.lst), rows o.1] (.bool true) := by have := laws_eqInt64SS (a := o.1) (b := o.1) hro hro; rw [rws_dat]; simpa using this
    have q3 : AC Try.prog 33 [.agg [.int .i64 s, .lst ((rws nx).map D.lst), ints lp], .agg [.int .i64 s, rows nx, ints lp]] (.bool true) := by
      have := laws_eqLit (s := s) (s' := s) (nx := nx) (nx' := nx) (lp := lp) (lp' := lp) h1 h1 hl hl
      rw [rws_dat]
      simpa using this
    generalize szLitF nx lp 1048576 = left at *
    refine ac_intro tabIs _ Try.func6 rfl rfl Try.ntmps6 rfl rfl fun w0 ok0 => ?_
    repeat (first | refine awp_seq ?_ | refine then_n ?_ | refine then_r ?_ | refine then_x ?_ | refine block_n ?_ | refine block_r ?_ | refine block_x ?_ | refine u_y ?_ | refine loop_r ?_ | refine loop_x ?_ | refine awp_region ?_ | refine awpL_nil ?_ | refine awpQL_nil ?_ | refine awp_block ?_ | refine awp_skip ?_ | refine awp_exit ?_ | refine awp_label ?_ | refine u_dT ?_ | refine u_d ?_ | ((first | apply c_l | apply c_q | apply c_lr | apply c_qr); (iterate 2 exact rfl); (focus (first | exact e1)); (iterate 2 exact rfl)) | refine u_l ?_ | refine u_o ?_ | refine u_q ?_ | refine u_lr ?_ | refine u_qr ?_ | refine u_ls ?_ | refine u_qs ?_ | refine u_t ?_ | refine u_f ?_)
    (apply c_l; (iterate 2 exact rfl); (focus exact t1); (iterate 2 exact rfl))
    repeat (first | refine awp_seq ?_ | refine then_n ?_ | refine then_r ?_ | refine then_x ?_ | refine block_n ?_ | refine block_r ?_ | refine block_x ?_ | refine u_y ?_ | refine loop_r ?_ | refine loop_x ?_ | refine awp_region ?_ | refine awpL_nil ?_ | refine awpQL_nil ?_ | refine awp_block ?_ | refine awp_skip ?_ | refine awp_exit ?_ | refine awp_label ?_ | refine u_dT ?_ | refine u_d ?_ | refine u_w (t := 6) ?_ | ((first | apply c_l | apply c_q | apply c_lr | apply c_qr); (iterate 2 exact rfl); (focus (first | exact f1)); (iterate 2 exact rfl)) | refine u_l ?_ | refine u_o ?_ | refine u_q ?_ | refine u_lr ?_ | refine u_qr ?_ | refine u_ls ?_ | refine u_qs ?_ | refine u_t ?_ | refine u_f ?_)
    refine hcl [] [(30000, 500), (30001, 501)] t3 ?_
    repeat (first | refine awp_seq ?_ | refine then_n ?_ | refine then_r ?_ | refine then_x ?_ | refine block_n ?_ | refine block_r ?_ | refine block_x ?_ | refine u_y ?_ | refine loop_r ?_ | refine loop_x ?_ | refine awp_region ?_ | refine awpL_nil ?_ | refine awpQL_nil ?_ | refine awp_block ?_ | refine awp_skip ?_ | refine awp_exit ?_ | refine awp_label ?_ | refine u_dT ?_ | refine u_d ?_ | refine u_l ?_ | refine u_o ?_ | refine u_q ?_ | refine u_lr ?_ | refine u_qr ?_ | refine u_ls ?_ | refine u_qs ?_ | refine u_t ?_ | refine u_f ?_)
    refine hlend (xs := [.agg [.int .i64 s, .lst ((rws nx).map D.lst), ints lp]]) (cap := []) [(30000, 503)] f3 ?_ ?_ ?_
    · intro p hp
      simp at hp
      subst hp
      intro xs hx x hx2
      simp only [rws, List.mem_map] at hx
      obtain ⟨ns, _, rfl⟩ := hx
      obtain ⟨a, _, rfl⟩ := List.mem_map.1 hx2
      rfl
    · exact ⟨trivial, rfl, trivial⟩
    repeat (first | refine awp_seq ?_ | refine then_n ?_ | refine then_r ?_ | refine then_x ?_ | refine block_n ?_ | refine block_r ?_ | refine block_x ?_ | refine u_y ?_ | refine loop_r ?_ | refine loop_x ?_ | refine awp_region ?_ | refine awpL_nil ?_ | refine awpQL_nil ?_ | refine awp_block ?_ | refine awp_skip ?_ | refine awp_exit ?_ | refine awp_label ?_ | refine u_dT ?_ | refine u_d ?_ | ((first | apply c_l | apply c_q | apply c_lr | apply c_qr); (iterate 2 exact rfl); (focus (first | exact q1 | exact q3 | exact t1)); (iterate 2 exact rfl)) | refine u_l ?_ | refine u_o ?_ | refine u_q ?_ | refine u_lr ?_ | refine u_qr ?_ | refine u_ls ?_ | refine u_qs ?_ | refine u_t ?_ | refine u_f ?_)
    refine hcl [(500, 10000), (501, 10001)] [(10000, 500), (10001, 501)] m1 ?_
    repeat (first | refine awp_seq ?_ | refine then_n ?_ | refine then_r ?_ | refine then_x ?_ | refine block_n ?_ | refine block_r ?_ | refine block_x ?_ | refine u_y ?_ | refine loop_r ?_ | refine loop_x ?_ | refine awp_region ?_ | refine awpL_nil ?_ | refine awpQL_nil ?_ | refine awp_block ?_ | refine awp_skip ?_ | refine awp_exit ?_ | refine awp_label ?_ | refine u_dT ?_ | refine u_d ?_ | ((first | apply c_l | apply c_q | apply c_lr | apply c_qr); (iterate 2 exact rfl); (focus (first | exact q1)); (iterate 2 exact rfl)) | refine u_l ?_ | refine u_o ?_ | refine u_q ?_ | refine u_lr ?_ | refine u_qr ?_ | refine u_ls ?_ | refine u_qs ?_ | refine u_t ?_ | refine u_f ?_)
    refine hcl [(503, 10000)] [(10000, 503)] m3 ?_
    repeat (first | refine awp_seq ?_ | refine then_n ?_ | refine then_r ?_ | refine then_x ?_ | refine block_n ?_ | refine block_r ?_ | refine block_x ?_ | refine u_y ?_ | refine loop_r ?_ | refine loop_x ?_ | refine awp_region ?_ | refine awpL_nil ?_ | refine awpQL_nil ?_ | refine awp_block ?_ | refine awp_skip ?_ | refine awp_exit ?_ | refine awp_label ?_ | refine u_dT ?_ | refine u_d ?_ | ((first | apply c_l | apply c_q | apply c_lr | apply c_qr); (iterate 2 exact rfl); (focus (first | exact d3)); (iterate 2 exact rfl)) | refine u_l ?_ | refine u_o ?_ | refine u_q ?_ | refine u_lr ?_ | refine u_qr ?_ | refine u_ls ?_ | refine u_qs ?_ | refine u_t ?_ | refine u_f ?_)
    (apply c_l; (iterate 2 exact rfl); (focus exact t1); (iterate 2 exact rfl))
    refine hcl [] [(30000, 504)] f2 ?_
    repeat (first | refine awp_seq ?_ | refine then_n ?_ | refine then_r ?_ | refine then_x ?_ | refine block_n ?_ | refine block_r ?_ | refine block_x ?_ | refine u_y ?_ | refine loop_r ?_ | refine loop_x ?_ | refine awp_region ?_ | refine awpL_nil ?_ | refine awpQL_nil ?_ | refine awp_block ?_ | refine awp_skip ?_ | refine awp_exit ?_ | refine awp_label ?_ | refine u_dT ?_ | refine u_d ?_ | ((first | apply c_l | apply c_q | apply c_lr | apply c_qr); (iterate 2 exact rfl); (focus (first | exact q1 | exact d3)); (iterate 2 exact rfl)) | refine u_l ?_ | refine u_o ?_ | refine u_q ?_ | refine u_lr ?_ | refine u_qr ?_ | refine u_ls ?_ | refine u_qs ?_ | refine u_t ?_ | refine u_f ?_)
    (refine awp_ret ?_; (repeat (first | refine then_r ?_ | refine block_r ?_ | refine loop_r ?_)); apply ret_ok (.inr rfl); (focus exact rfl))
    rfl

end Go.Proofs.Ytnlajcnbmdldfaa
