/- CoverageOf, in the reference and in the program, and its law. No condition. -/
import Derived.Test.YtkomkhigcdkpdaaCc
namespace Go.Proofs.Ytkomkhigcdkpdaa
open Go
attribute [local irreducible] awp awpL awpQL awpQ awpM pWalk Qt AC thenQ blockQ loopQ OpTo
set_option linter.unusedVariables false
set_option linter.unusedSimpArgs false
set_option maxHeartbeats 2000000
attribute [local irreducible] HC

/-- The first word that tells two machines apart, and whether there is one. -/
noncomputable def apR (nx ou nx' ou' : List (List Int)) : List Int × Bool := open Classical in if h : ∃ R, ∃ I, I ≤ 160 ∧ Srch nx ou nx' ou' I R then Classical.choose h else ([], false)
section
variable {s o s' o' : Int} {nx ou nx' ou' : List (List Int)}
theorem apR_srch (m : MV s o nx ou) (m' : MV s' o' nx' ou') (he : nx'.length = nx.length) : ∃ I, I ≤ 160 ∧ Srch nx ou nx' ou' I (apR nx ou nx' ou') := by
  obtain ⟨I, R, h1, h2⟩ := srch_ex m m' he
  have h : ∃ R, ∃ I, I ≤ 160 ∧ Srch nx ou nx' ou' I R := ⟨R, I, h1, h2⟩
  unfold apR
  rw [dif_pos h]
  exact Classical.choose_spec h
theorem impl_apartR (m : MV s o nx ou) (m' : MV s' o' nx' ou') (he : nx'.length = nx.length) : AC Try.prog 83 [mach s o nx ou, mach s' o' nx' ou', .int .i64 0, .int .i64 0] (.tup [ints (apR nx ou nx' ou').1, .bool (apR nx ou nx' ou').2]) := by
  obtain ⟨I, h1, h2⟩ := apR_srch m m' he
  exact impl_apart m m' he h2 (by omega)
theorem spec_DifferR (m : MV s o nx ou) (m' : MV s' o' nx' ou') (he : nx'.length = nx.length) : AC Try.prog 81 [.ptr (mach s o nx ou), .ptr (mach s' o' nx' ou')] (.tup [ints (apR nx ou nx' ou').1, .bool (apR nx ou nx' ou').2]) := by
  obtain ⟨I, h1, h2⟩ := apR_srch m m' he
  exact spec_l06Differ m m' he h2 (by omega)
end

/-- How many of the first mutants are equivalent. -/
noncomputable def sameC (s o : Int) (nx ou : List (List Int)) : Nat → Nat
  | 0 => 0
  | k + 1 => sameC s o nx ou k + if (apR nx ou (mutX s o nx ou k).1 (mutX s o nx ou k).2).2 then 0 else 1
theorem sameC_le {s o : Int} {nx ou : List (List Int)} : ∀ k, sameC s o nx ou k ≤ k
  | 0 => Nat.le_refl _
  | k + 1 => by
    have := sameC_le (s := s) (o := o) (nx := nx) (ou := ou) k
    unfold sameC
    split <;> omega
/-- What CoverageOf answers. -/
noncomputable def covD (s o : Int) (nx ou ws : List (List Int)) : Int × Int × Int × Int :=
  if machOk s o nx ou then (if suiteOk nx.length ws then (((kilL s o nx ou ws (mutN s o nx.length).toNat).length, sameC s o nx ou (mutN s o nx.length).toNat, mutN s o nx.length - (kilL s o nx ou ws (mutN s o nx.length).toNat).length - sameC s o nx ou (mutN s o nx.length).toNat, 0)) else (0, 0, 0, 2)) else (0, 0, 0, 1)

theorem spec_CoverageOf {s o : Int} {nx ou ws : List (List Int)} (h1 : RowsOk nx) (h2 : RowsOk ou) (h3 : RowsOk ws) :
    AC Try.prog 37 [mach s o nx ou, rows ws] (.tup [.int .i64 (covD s o nx ou ws).1, .int .i64 (covD s o nx ou ws).2.1, .int .i64 (covD s o nx ou ws).2.2.1, .int .i64 (covD s o nx ou ws).2.2.2]) := by
  have e1 := spec_l07Given (s := s) (o := o) h1 h2 h3
  unfold covD
  by_cases hv : machOk s o nx ou = true
  · rw [if_pos hv] at e1 ⊢
    by_cases hr : suiteOk nx.length ws = true
    · rw [if_pos hr] at e1 ⊢
      obtain ⟨q1, q2⟩ := suite_of hr
      have m := mv_of hv
      have hb := mutN_bounds m.s1 m.o1 m.n1.2
      have e2 := spec_l07Killed m ⟨q1, q2⟩
      have e3 := spec_l07Count (ou := ou) m.s1 m.o1 m.n1.2
      obtain ⟨M, hM⟩ : ∃ M : Nat, mutN s o nx.length = M := ⟨(mutN s o nx.length).toNat, by omega⟩
      have hMt : (mutN s o nx.length).toNat = M := by omega
      have hmut : ∀ k : Nat, k < M → AC Try.prog 80 [.ptr (mach s o nx ou), .int .i64 k] (mach s o (mutX s o nx ou k).1 (mutX s o nx ou k).2) := fun k hk => spec_l07Mutant m (k := (k : Int)) (by omega)
      have hmv : ∀ k : Nat, k < M → MV s o (mutX s o nx ou k).1 (mutX s o nx ou k).2 ∧ (mutX s o nx ou k).1.length = nx.length := fun k hk => mv_mut m (k := (k : Int)) (by omega)
      have hkl := kilL_len s o nx ou ws M
      rw [hMt] at e2 ⊢
      rw [hM] at e3 hb ⊢
      generalize kilL s o nx ou ws M = L at *
      have hle : (List.map (D.int .i64) L).length = L.length := by simp
      have hap : ∀ k : Nat, k < M → AC Try.prog 81 [.ptr (mach s o nx ou), .ptr (mach s o (mutX s o nx ou k).1 (mutX s o nx ou k).2)] (.tup [ints (apR nx ou (mutX s o nx ou k).1 (mutX s o nx ou k).2).1, .bool (apR nx ou (mutX s o nx ou k).1 (mutX s o nx ou k).2).2]) := fun k hk => spec_DifferR m (hmv k hk).1 (hmv k hk).2
      have hMb : (M : Int) ≤ 1000 := by omega
      rw [← hle]
      clear hle
      refine ac_intro tabIs _ Try.func37 rfl rfl Try.ntmps37 rfl rfl fun w0 ok0 => ?_
      repeat (first | refine awp_seq ?_ | refine then_n ?_ | refine then_r ?_ | refine then_x ?_ | refine block_n ?_ | refine block_r ?_ | refine block_x ?_ | refine u_y ?_ | refine loop_r ?_ | refine loop_x ?_ | refine awp_region ?_ | refine awpL_nil ?_ | refine awpQL_nil ?_ | refine awp_block ?_ | refine awp_skip ?_ | refine awp_exit ?_ | refine awp_label ?_ | refine u_dT ?_ | refine u_d ?_ | ((first | apply c_l | apply c_q | apply c_lr | apply c_qr); (iterate 2 exact rfl); (focus (first | exact e1 | exact e2)); (iterate 2 exact rfl)) | (apply v_c; (iterate 4 exact rfl); (focus (first | exact e1 | exact e2)); (iterate 2 exact rfl)) | refine u_l ?_ | refine u_o ?_ | refine u_q ?_ | refine u_lr ?_ | refine u_qr ?_ | refine u_ls ?_ | refine u_qs ?_ | refine u_t ?_ | refine u_f ?_ | refine v_s ?_ | refine v_o ?_ | refine v_on ?_ | refine v_og ?_ | refine v_q ?_ | refine v_sr ?_ | refine v_k ?_ | refine m_nil ?_)
      refine awp_loop (fun k : Nat => k ≤ M) (fun k => [(2, .d (.ptr (mach s o nx ou))), (9, .d (.int .i64 (List.map (D.int .i64) L).length)), (10, .d (.int .i64 (sameC s o nx ou k))), (11, .d (.int .i64 k))]) (fun _ => []) (fun k => M - k) 0 (by omega) ?_ rfl ?_
      · ((repeat (first | exact trivial | (refine ⟨?_, ?_⟩; (focus (first | rfl | (simp [lk, argsS, args0]; done) | (simp [lk, argsS, args0]; omega)))))))
      · intro k hk
        have hsl := sameC_le (s := s) (o := o) (nx := nx) (ou := ou) k
        by_cases hlt : k < M
        · have e4 := hmut k hlt
          have e5 := hap k hlt
          have hstep : sameC s o nx ou (k + 1) = sameC s o nx ou k + if (apR nx ou (mutX s o nx ou k).1 (mutX s o nx ou k).2).2 then 0 else 1 := rfl
          generalize mutX s o nx ou k = X at *
          generalize apR nx ou X.1 X.2 = A at *
          cases hA : A.2
          · rw [hA] at e5 hstep
            simp only [Bool.false_eq_true, if_false] at hstep
            repeat (first | refine awp_seq ?_ | refine then_n ?_ | refine then_r ?_ | refine then_x ?_ | refine block_n ?_ | refine block_r ?_ | refine block_x ?_ | refine u_y ?_ | refine loop_r ?_ | refine loop_x ?_ | refine awp_region ?_ | refine awpL_nil ?_ | refine awpQL_nil ?_ | refine awp_block ?_ | refine awp_skip ?_ | refine awp_exit ?_ | refine awp_label ?_ | refine u_dT ?_ | refine u_d ?_ | ((first | apply c_l | apply c_q | apply c_lr | apply c_qr); (iterate 2 exact rfl); (focus (first | exact e3 | exact e4)); (iterate 2 exact rfl)) | (apply v_c; (iterate 4 exact rfl); (focus (first | exact e3 | exact e4)); (iterate 2 exact rfl)) | refine u_l ?_ | refine u_o ?_ | refine u_q ?_ | refine u_lr ?_ | refine u_qr ?_ | refine u_ls ?_ | refine u_qs ?_ | refine u_t ?_ | refine u_f ?_ | refine v_s ?_ | refine v_o ?_ | refine v_on ?_ | refine v_og ?_ | refine v_q ?_ | refine v_sr ?_ | refine v_k ?_ | refine m_nil ?_)
            refine awpL_freezeB 12 rfl rfl rfl ?_
            repeat (first | refine awp_seq ?_ | refine then_n ?_ | refine then_r ?_ | refine then_x ?_ | refine block_n ?_ | refine block_r ?_ | refine block_x ?_ | refine u_y ?_ | refine loop_r ?_ | refine loop_x ?_ | refine awp_region ?_ | refine awpL_nil ?_ | refine awpQL_nil ?_ | refine awp_block ?_ | refine awp_skip ?_ | refine awp_exit ?_ | refine awp_label ?_ | refine u_dT ?_ | refine u_d ?_ | ((first | apply c_l | apply c_q | apply c_lr | apply c_qr); (iterate 2 exact rfl); (focus (first | exact e5)); (iterate 2 exact rfl)) | (apply v_c; (iterate 4 exact rfl); (focus (first | exact e5)); (iterate 2 exact rfl)) | refine u_l ?_ | refine u_o ?_ | refine u_q ?_ | refine u_lr ?_ | refine u_qr ?_ | refine u_ls ?_ | refine u_qs ?_ | refine u_t ?_ | refine u_f ?_ | refine v_s ?_ | refine v_o ?_ | refine v_on ?_ | refine v_og ?_ | refine v_q ?_ | refine v_sr ?_ | refine v_k ?_ | refine m_nil ?_)
            refine loop_n (k + 1) (by omega) ?_ rfl (by omega)
            rw [hstep]
            ((repeat (first | exact trivial | (refine ⟨?_, ?_⟩; (focus (first | rfl | (simp [lk, argsS, args0]; done) | (simp [lk, argsS, args0]; omega)))))))
          · rw [hA] at e5 hstep
            simp only [if_true, Nat.add_zero] at hstep
            repeat (first | refine awp_seq ?_ | refine then_n ?_ | refine then_r ?_ | refine then_x ?_ | refine block_n ?_ | refine block_r ?_ | refine block_x ?_ | refine u_y ?_ | refine loop_r ?_ | refine loop_x ?_ | refine awp_region ?_ | refine awpL_nil ?_ | refine awpQL_nil ?_ | refine awp_block ?_ | refine awp_skip ?_ | refine awp_exit ?_ | refine awp_label ?_ | refine u_dT ?_ | refine u_d ?_ | ((first | apply c_l | apply c_q | apply c_lr | apply c_qr); (iterate 2 exact rfl); (focus (first | exact e3 | exact e4)); (iterate 2 exact rfl)) | (apply v_c; (iterate 4 exact rfl); (focus (first | exact e3 | exact e4)); (iterate 2 exact rfl)) | refine u_l ?_ | refine u_o ?_ | refine u_q ?_ | refine u_lr ?_ | refine u_qr ?_ | refine u_ls ?_ | refine u_qs ?_ | refine u_t ?_ | refine u_f ?_ | refine v_s ?_ | refine v_o ?_ | refine v_on ?_ | refine v_og ?_ | refine v_q ?_ | refine v_sr ?_ | refine v_k ?_ | refine m_nil ?_)
            refine awpL_freezeB 12 rfl rfl rfl ?_
            repeat (first | refine awp_seq ?_ | refine then_n ?_ | refine then_r ?_ | refine then_x ?_ | refine block_n ?_ | refine block_r ?_ | refine block_x ?_ | refine u_y ?_ | refine loop_r ?_ | refine loop_x ?_ | refine awp_region ?_ | refine awpL_nil ?_ | refine awpQL_nil ?_ | refine awp_block ?_ | refine awp_skip ?_ | refine awp_exit ?_ | refine awp_label ?_ | refine u_dT ?_ | refine u_d ?_ | ((first | apply c_l | apply c_q | apply c_lr | apply c_qr); (iterate 2 exact rfl); (focus (first | exact e5)); (iterate 2 exact rfl)) | (apply v_c; (iterate 4 exact rfl); (focus (first | exact e5)); (iterate 2 exact rfl)) | refine u_l ?_ | refine u_o ?_ | refine u_q ?_ | refine u_lr ?_ | refine u_qr ?_ | refine u_ls ?_ | refine u_qs ?_ | refine u_t ?_ | refine u_f ?_ | refine v_s ?_ | refine v_o ?_ | refine v_on ?_ | refine v_og ?_ | refine v_q ?_ | refine v_sr ?_ | refine v_k ?_ | refine m_nil ?_)
            refine loop_n (k + 1) (by omega) ?_ rfl (by omega)
            rw [hstep]
            ((repeat (first | exact trivial | (refine ⟨?_, ?_⟩; (focus (first | rfl | (simp [lk, argsS, args0]; done) | (simp [lk, argsS, args0]; omega)))))))
        · have : k = M := by omega
          subst this
          have hlm : (List.map (D.int .i64) L).length = L.length := by simp
          repeat (first | refine awp_seq ?_ | refine then_n ?_ | refine then_r ?_ | refine then_x ?_ | refine block_n ?_ | refine block_r ?_ | refine block_x ?_ | refine u_y ?_ | refine loop_r ?_ | refine loop_x ?_ | refine awp_region ?_ | refine awpL_nil ?_ | refine awpQL_nil ?_ | refine awp_block ?_ | refine awp_skip ?_ | refine awp_exit ?_ | refine awp_label ?_ | refine u_dT ?_ | refine u_d ?_ | ((first | apply c_l | apply c_q | apply c_lr | apply c_qr); (iterate 2 exact rfl); (focus (first | exact e3)); (iterate 2 exact rfl)) | (apply v_c; (iterate 4 exact rfl); (focus (first | exact e3)); (iterate 2 exact rfl)) | refine u_l ?_ | refine u_o ?_ | refine u_q ?_ | refine u_lr ?_ | refine u_qr ?_ | refine u_ls ?_ | refine u_qs ?_ | refine u_t ?_ | refine u_f ?_ | refine v_s ?_ | refine v_o ?_ | refine v_on ?_ | refine v_og ?_ | refine v_q ?_ | refine v_sr ?_ | refine v_k ?_ | refine m_nil ?_)
          (refine awp_ret ?_; (repeat (first | refine then_r ?_ | refine block_r ?_ | refine loop_r ?_)); apply ret_ok (.inr rfl); (focus exact rfl))
          rfl
    · rw [if_neg hr] at e1 ⊢
      refine ac_intro tabIs _ Try.func37 rfl rfl Try.ntmps37 rfl rfl fun w0 ok0 => ?_
      repeat (first | refine awp_seq ?_ | refine then_n ?_ | refine then_r ?_ | refine then_x ?_ | refine block_n ?_ | refine block_r ?_ | refine block_x ?_ | refine u_y ?_ | refine loop_r ?_ | refine loop_x ?_ | refine awp_region ?_ | refine awpL_nil ?_ | refine awpQL_nil ?_ | refine awp_block ?_ | refine awp_skip ?_ | refine awp_exit ?_ | refine awp_label ?_ | refine u_dT ?_ | refine u_d ?_ | ((first | apply c_l | apply c_q | apply c_lr | apply c_qr); (iterate 2 exact rfl); (focus (first | exact e1)); (iterate 2 exact rfl)) | (apply v_c; (iterate 4 exact rfl); (focus (first | exact e1)); (iterate 2 exact rfl)) | refine u_l ?_ | refine u_o ?_ | refine u_q ?_ | refine u_lr ?_ | refine u_qr ?_ | refine u_ls ?_ | refine u_qs ?_ | refine u_t ?_ | refine u_f ?_ | refine v_s ?_ | refine v_o ?_ | refine v_on ?_ | refine v_og ?_ | refine v_q ?_ | refine v_sr ?_ | refine v_k ?_ | refine m_nil ?_)
      (refine awp_ret ?_; (repeat (first | refine then_r ?_ | refine block_r ?_ | refine loop_r ?_)); apply ret_ok (.inr rfl); (focus exact rfl))
      rfl
  · rw [if_neg hv] at e1 ⊢
    refine ac_intro tabIs _ Try.func37 rfl rfl Try.ntmps37 rfl rfl fun w0 ok0 => ?_
    repeat (first | refine awp_seq ?_ | refine then_n ?_ | refine then_r ?_ | refine then_x ?_ | refine block_n ?_ | refine block_r ?_ | refine block_x ?_ | refine u_y ?_ | refine loop_r ?_ | refine loop_x ?_ | refine awp_region ?_ | refine awpL_nil ?_ | refine awpQL_nil ?_ | refine awp_block ?_ | refine awp_skip ?_ | refine awp_exit ?_ | refine awp_label ?_ | refine u_dT ?_ | refine u_d ?_ | ((first | apply c_l | apply c_q | apply c_lr | apply c_qr); (iterate 2 exact rfl); (focus (first | exact e1)); (iterate 2 exact rfl)) | (apply v_c; (iterate 4 exact rfl); (focus (first | exact e1)); (iterate 2 exact rfl)) | refine u_l ?_ | refine u_o ?_ | refine u_q ?_ | refine u_lr ?_ | refine u_qr ?_ | refine u_ls ?_ | refine u_qs ?_ | refine u_t ?_ | refine u_f ?_ | refine v_s ?_ | refine v_o ?_ | refine v_on ?_ | refine v_og ?_ | refine v_q ?_ | refine v_sr ?_ | refine v_k ?_ | refine m_nil ?_)
    (refine awp_ret ?_; (repeat (first | refine then_r ?_ | refine block_r ?_ | refine loop_r ?_)); apply ret_ok (.inr rfl); (focus exact rfl))
    rfl

theorem impl_CoverageOf {s o : Int} {nx ou ws : List (List Int)} (h1 : RowsOk nx) (h2 : RowsOk ou) (h3 : RowsOk ws) :
    AC Try.prog 38 [mach s o nx ou, rows ws] (.tup [.int .i64 (covD s o nx ou ws).1, .int .i64 (covD s o nx ou ws).2.1, .int .i64 (covD s o nx ou ws).2.2.1, .int .i64 (covD s o nx ou ws).2.2.2]) := by
  have e1 : AC Try.prog 82 [mach s o nx ou, rows ws] (.tup [ints (kilD s o nx ou ws).1, .int .i64 (kilD s o nx ou ws).2]) := ac_of_hc (xs := [mach s o nx ou, rows ws]) (d := .tup [ints (kilD s o nx ou ws).1, .int .i64 (kilD s o nx ou ws).2]) (impl_KilledByH h1 h2 h3) rfl
  unfold covD
  unfold kilD at e1
  by_cases hv : machOk s o nx ou = true
  · rw [if_pos hv] at e1 ⊢
    by_cases hr : suiteOk nx.length ws = true
    · rw [if_pos hr] at e1 ⊢
      have m := mv_of hv
      have hb := mutN_bounds m.s1 m.o1 m.n1.2
      have e3 := impl_mutants (ou := ou) m.s1 m.o1 m.n1.2
      obtain ⟨M, hM⟩ : ∃ M : Nat, mutN s o nx.length = M := ⟨(mutN s o nx.length).toNat, by omega⟩
      have hMt : (mutN s o nx.length).toNat = M := by omega
      have hmut : ∀ k : Nat, k < M → AC Try.prog 84 [mach s o nx ou, .int .i64 k] (mach s o (mutX s o nx ou k).1 (mutX s o nx ou k).2) := fun k hk => impl_mutant m (k := (k : Int)) (by omega)
      have hmv : ∀ k : Nat, k < M → MV s o (mutX s o nx ou k).1 (mutX s o nx ou k).2 ∧ (mutX s o nx ou k).1.length = nx.length := fun k hk => mv_mut m (k := (k : Int)) (by omega)
      have hkl := kilL_len s o nx ou ws M
      rw [hMt] at e1 ⊢
      rw [hM] at e3 hb ⊢
      generalize kilL s o nx ou ws M = L at *
      have hle : (List.map (D.int .i64) L).length = L.length := by simp
      have hap : ∀ k : Nat, k < M → AC Try.prog 83 [mach s o nx ou, mach s o (mutX s o nx ou k).1 (mutX s o nx ou k).2, .int .i64 0, .int .i64 0] (.tup [ints (apR nx ou (mutX s o nx ou k).1 (mutX s o nx ou k).2).1, .bool (apR nx ou (mutX s o nx ou k).1 (mutX s o nx ou k).2).2]) := fun k hk => impl_apartR m (hmv k hk).1 (hmv k hk).2
      have hMb : (M : Int) ≤ 1000 := by omega
      have e2 := impl_size1 (ns := L)
      refine ac_intro tabIs _ Try.func38 rfl rfl Try.ntmps38 rfl rfl fun w0 ok0 => ?_
      repeat (first | refine awp_seq ?_ | refine then_n ?_ | refine then_r ?_ | refine then_x ?_ | refine block_n ?_ | refine block_r ?_ | refine block_x ?_ | refine u_y ?_ | refine loop_r ?_ | refine loop_x ?_ | refine awp_region ?_ | refine awpL_nil ?_ | refine awpQL_nil ?_ | refine awp_block ?_ | refine awp_skip ?_ | refine awp_exit ?_ | refine awp_label ?_ | refine u_dT ?_ | refine u_d ?_ | ((first | apply c_l | apply c_q | apply c_lr | apply c_qr); (iterate 2 exact rfl); (focus (first | exact e1 | exact e3)); (iterate 2 exact rfl)) | (apply v_c; (iterate 4 exact rfl); (focus (first | exact e1 | exact e3)); (iterate 2 exact rfl)) | refine u_l ?_ | refine u_o ?_ | refine u_q ?_ | refine u_lr ?_ | refine u_qr ?_ | refine u_ls ?_ | refine u_qs ?_ | refine u_t ?_ | refine u_f ?_ | refine v_s ?_ | refine v_o ?_ | refine v_on ?_ | refine v_og ?_ | refine v_q ?_ | refine v_sr ?_ | refine v_k ?_ | refine m_nil ?_)
      refine awp_loop (fun k : Nat => k ≤ M) (fun k => [(2, .d (.ptr (mach s o nx ou))), (8, .d (ints L)), (10, .d (.int .i64 (sameC s o nx ou k))), (24, .d (.int .i64 M)), (25, .d (.int .i64 k))]) (fun _ => []) (fun k => M - k) 0 (by omega) ?_ rfl ?_
      · ((repeat (first | exact trivial | (refine ⟨?_, ?_⟩; (focus (first | rfl | (simp [lk, argsS, args0]; done) | (simp [lk, argsS, args0]; omega)))))))
      · intro k hk
        have hsl := sameC_le (s := s) (o := o) (nx := nx) (ou := ou) k
        by_cases hlt : k < M
        · have e4 := hmut k hlt
          have e5 := hap k hlt
          have hstep : sameC s o nx ou (k + 1) = sameC s o nx ou k + if (apR nx ou (mutX s o nx ou k).1 (mutX s o nx ou k).2).2 then 0 else 1 := rfl
          generalize mutX s o nx ou k = X at *
          generalize apR nx ou X.1 X.2 = A at *
          cases hA : A.2
          · rw [hA] at e5 hstep
            simp only [Bool.false_eq_true, if_false] at hstep
            repeat (first | refine awp_seq ?_ | refine then_n ?_ | refine then_r ?_ | refine then_x ?_ | refine block_n ?_ | refine block_r ?_ | refine block_x ?_ | refine u_y ?_ | refine loop_r ?_ | refine loop_x ?_ | refine awp_region ?_ | refine awpL_nil ?_ | refine awpQL_nil ?_ | refine awp_block ?_ | refine awp_skip ?_ | refine awp_exit ?_ | refine awp_label ?_ | refine u_dT ?_ | refine u_d ?_ | ((first | apply c_l | apply c_q | apply c_lr | apply c_qr); (iterate 2 exact rfl); (focus (first | exact e4 | exact e5)); (iterate 2 exact rfl)) | (apply v_c; (iterate 4 exact rfl); (focus (first | exact e4 | exact e5)); (iterate 2 exact rfl)) | refine u_l ?_ | refine u_o ?_ | refine u_q ?_ | refine u_lr ?_ | refine u_qr ?_ | refine u_ls ?_ | refine u_qs ?_ | refine u_t ?_ | refine u_f ?_ | refine v_s ?_ | refine v_o ?_ | refine v_on ?_ | refine v_og ?_ | refine v_q ?_ | refine v_sr ?_ | refine v_k ?_ | refine m_nil ?_)
            refine loop_n (k + 1) (by omega) ?_ rfl (by omega)
            rw [hstep]
            ((repeat (first | exact trivial | (refine ⟨?_, ?_⟩; (focus (first | rfl | (simp [lk, argsS, args0]; done) | (simp [lk, argsS, args0]; omega)))))))
          · rw [hA] at e5 hstep
            simp only [if_true, Nat.add_zero] at hstep
            repeat (first | refine awp_seq ?_ | refine then_n ?_ | refine then_r ?_ | refine then_x ?_ | refine block_n ?_ | refine block_r ?_ | refine block_x ?_ | refine u_y ?_ | refine loop_r ?_ | refine loop_x ?_ | refine awp_region ?_ | refine awpL_nil ?_ | refine awpQL_nil ?_ | refine awp_block ?_ | refine awp_skip ?_ | refine awp_exit ?_ | refine awp_label ?_ | refine u_dT ?_ | refine u_d ?_ | ((first | apply c_l | apply c_q | apply c_lr | apply c_qr); (iterate 2 exact rfl); (focus (first | exact e4 | exact e5)); (iterate 2 exact rfl)) | (apply v_c; (iterate 4 exact rfl); (focus (first | exact e4 | exact e5)); (iterate 2 exact rfl)) | refine u_l ?_ | refine u_o ?_ | refine u_q ?_ | refine u_lr ?_ | refine u_qr ?_ | refine u_ls ?_ | refine u_qs ?_ | refine u_t ?_ | refine u_f ?_ | refine v_s ?_ | refine v_o ?_ | refine v_on ?_ | refine v_og ?_ | refine v_q ?_ | refine v_sr ?_ | refine v_k ?_ | refine m_nil ?_)
            refine loop_n (k + 1) (by omega) ?_ rfl (by omega)
            rw [hstep]
            ((repeat (first | exact trivial | (refine ⟨?_, ?_⟩; (focus (first | rfl | (simp [lk, argsS, args0]; done) | (simp [lk, argsS, args0]; omega)))))))
        · have : k = M := by omega
          subst this
          repeat (first | refine awp_seq ?_ | refine then_n ?_ | refine then_r ?_ | refine then_x ?_ | refine block_n ?_ | refine block_r ?_ | refine block_x ?_ | refine u_y ?_ | refine loop_r ?_ | refine loop_x ?_ | refine awp_region ?_ | refine awpL_nil ?_ | refine awpQL_nil ?_ | refine awp_block ?_ | refine awp_skip ?_ | refine awp_exit ?_ | refine awp_label ?_ | refine u_dT ?_ | refine u_d ?_ | ((first | apply c_l | apply c_q | apply c_lr | apply c_qr); (iterate 2 exact rfl); (focus (first | exact e2 | exact e3)); (iterate 2 exact rfl)) | (apply v_c; (iterate 4 exact rfl); (focus (first | exact e2 | exact e3)); (iterate 2 exact rfl)) | refine u_l ?_ | refine u_o ?_ | refine u_q ?_ | refine u_lr ?_ | refine u_qr ?_ | refine u_ls ?_ | refine u_qs ?_ | refine u_t ?_ | refine u_f ?_ | refine v_s ?_ | refine v_o ?_ | refine v_on ?_ | refine v_og ?_ | refine v_q ?_ | refine v_sr ?_ | refine v_k ?_ | refine m_nil ?_)
          (refine awp_ret ?_; (repeat (first | refine then_r ?_ | refine block_r ?_ | refine loop_r ?_)); apply ret_ok (.inr rfl); (focus exact rfl))
          rfl
    · rw [if_neg hr] at e1 ⊢
      refine ac_intro tabIs _ Try.func38 rfl rfl Try.ntmps38 rfl rfl fun w0 ok0 => ?_
      repeat (first | refine awp_seq ?_ | refine then_n ?_ | refine then_r ?_ | refine then_x ?_ | refine block_n ?_ | refine block_r ?_ | refine block_x ?_ | refine u_y ?_ | refine loop_r ?_ | refine loop_x ?_ | refine awp_region ?_ | refine awpL_nil ?_ | refine awpQL_nil ?_ | refine awp_block ?_ | refine awp_skip ?_ | refine awp_exit ?_ | refine awp_label ?_ | refine u_dT ?_ | refine u_d ?_ | ((first | apply c_l | apply c_q | apply c_lr | apply c_qr); (iterate 2 exact rfl); (focus (first | exact e1)); (iterate 2 exact rfl)) | (apply v_c; (iterate 4 exact rfl); (focus (first | exact e1)); (iterate 2 exact rfl)) | refine u_l ?_ | refine u_o ?_ | refine u_q ?_ | refine u_lr ?_ | refine u_qr ?_ | refine u_ls ?_ | refine u_qs ?_ | refine u_t ?_ | refine u_f ?_ | refine v_s ?_ | refine v_o ?_ | refine v_on ?_ | refine v_og ?_ | refine v_q ?_ | refine v_sr ?_ | refine v_k ?_ | refine m_nil ?_)
      (refine awp_ret ?_; (repeat (first | refine then_r ?_ | refine block_r ?_ | refine loop_r ?_)); apply ret_ok (.inr rfl); (focus exact rfl))
      rfl
  · rw [if_neg hv] at e1 ⊢
    refine ac_intro tabIs _ Try.func38 rfl rfl Try.ntmps38 rfl rfl fun w0 ok0 => ?_
    repeat (first | refine awp_seq ?_ | refine then_n ?_ | refine then_r ?_ | refine then_x ?_ | refine block_n ?_ | refine block_r ?_ | refine block_x ?_ | refine u_y ?_ | refine loop_r ?_ | refine loop_x ?_ | refine awp_region ?_ | refine awpL_nil ?_ | refine awpQL_nil ?_ | refine awp_block ?_ | refine awp_skip ?_ | refine awp_exit ?_ | refine awp_label ?_ | refine u_dT ?_ | refine u_d ?_ | ((first | apply c_l | apply c_q | apply c_lr | apply c_qr); (iterate 2 exact rfl); (focus (first | exact e1)); (iterate 2 exact rfl)) | (apply v_c; (iterate 4 exact rfl); (focus (first | exact e1)); (iterate 2 exact rfl)) | refine u_l ?_ | refine u_o ?_ | refine u_q ?_ | refine u_lr ?_ | refine u_qr ?_ | refine u_ls ?_ | refine u_qs ?_ | refine u_t ?_ | refine u_f ?_ | refine v_s ?_ | refine v_o ?_ | refine v_on ?_ | refine v_og ?_ | refine v_q ?_ | refine v_sr ?_ | refine v_k ?_ | refine m_nil ?_)
    (refine awp_ret ?_; (repeat (first | refine then_r ?_ | refine block_r ?_ | refine loop_r ?_)); apply ret_ok (.inr rfl); (focus exact rfl))
    rfl

theorem law_ExactCoverageOf {s o : Int} {nx ou ws : List (List Int)} (g1 : I64 s) (g2 : I64 o) (h1 : RowsOk nx) (h2 : RowsOk ou) (h5 : RowsOk ws) : AC Try.prog 8 [mach s o nx ou, rows ws] (.bool true) := by
  have e1 := laws_szMachine (s := s) (o := o) (left := 1048576) h1 h2 (by omega)
  have hok := szM_ok (nx := nx) (ou := ou) (left := 1048576) (by omega)
  generalize szM nx ou 1048576 = left1 at *
  obtain ⟨b1, b2, b3⟩ := hok
  by_cases hc : left1 < 0
  · unfold mach at *
    refine ac_intro tabIs _ Try.func8 rfl rfl Try.ntmps8 rfl rfl fun w0 ok0 => ?_
    repeat (first | refine awp_seq ?_ | refine then_n ?_ | refine then_r ?_ | refine then_x ?_ | refine block_n ?_ | refine block_r ?_ | refine block_x ?_ | refine u_y ?_ | refine loop_r ?_ | refine loop_x ?_ | refine awp_region ?_ | refine awpL_nil ?_ | refine awpQL_nil ?_ | refine awp_block ?_ | refine awp_skip ?_ | refine awp_exit ?_ | refine awp_label ?_ | refine u_dT ?_ | refine u_d ?_ | ((first | apply c_l | apply c_q | apply c_lr | apply c_qr); (iterate 2 exact rfl); (focus (first | exact e1)); (iterate 2 exact rfl)) | (apply v_c; (iterate 4 exact rfl); (focus (first | exact e1)); (iterate 2 exact rfl)) | refine u_l ?_ | refine u_o ?_ | refine u_q ?_ | refine u_lr ?_ | refine u_qr ?_ | refine u_ls ?_ | refine u_qs ?_ | refine u_t ?_ | refine u_f ?_ | refine v_s ?_ | refine v_o ?_ | refine v_on ?_ | refine v_og ?_ | refine v_q ?_ | refine v_sr ?_ | refine v_k ?_ | refine m_nil ?_)
    (refine awp_ret ?_; (repeat (first | refine then_r ?_ | refine block_r ?_ | refine loop_r ?_)); apply ret_ok (.inr rfl); (focus exact rfl))
    rfl
  · obtain ⟨⟨a1, a2⟩, a3, a4⟩ := b3 (by omega)
    have e2 := laws_szInt64SS (nss := ws) (left := left1) h5 (by omega)
    have hok2 := szR_ok (nss := ws) (left := left1) (by omega)
    generalize szR ws left1 = left2 at *
    obtain ⟨c0, c3⟩ := hok2
    by_cases hd : left2 < 0
    · unfold mach at *
      refine ac_intro tabIs _ Try.func8 rfl rfl Try.ntmps8 rfl rfl fun w0 ok0 => ?_
      repeat (first | refine awp_seq ?_ | refine then_n ?_ | refine then_r ?_ | refine then_x ?_ | refine block_n ?_ | refine block_r ?_ | refine block_x ?_ | refine u_y ?_ | refine loop_r ?_ | refine loop_x ?_ | refine awp_region ?_ | refine awpL_nil ?_ | refine awpQL_nil ?_ | refine awp_block ?_ | refine awp_skip ?_ | refine awp_exit ?_ | refine awp_label ?_ | refine u_dT ?_ | refine u_d ?_ | ((first | apply c_l | apply c_q | apply c_lr | apply c_qr); (iterate 2 exact rfl); (focus (first | exact e1 | exact e2)); (iterate 2 exact rfl)) | (apply v_c; (iterate 4 exact rfl); (focus (first | exact e1 | exact e2)); (iterate 2 exact rfl)) | refine u_l ?_ | refine u_o ?_ | refine u_q ?_ | refine u_lr ?_ | refine u_qr ?_ | refine u_ls ?_ | refine u_qs ?_ | refine u_t ?_ | refine u_f ?_ | refine v_s ?_ | refine v_o ?_ | refine v_on ?_ | refine v_og ?_ | refine v_q ?_ | refine v_sr ?_ | refine v_k ?_ | refine m_nil ?_)
      (refine awp_ret ?_; (repeat (first | refine then_r ?_ | refine block_r ?_ | refine loop_r ?_)); apply ret_ok (.inr rfl); (focus exact rfl))
      rfl
    · obtain ⟨c1, c2⟩ := c3 (by omega)
      have t1 := laws_toMachine (s := s) (o := o) (nx := nx) (ou := ou) (by omega) (fun ns h => by have := a2 ns h; omega) (by omega) (fun ns h => by have := a4 ns h; omega)
      have t2 := laws_toInt64SS (nss := ws) (by omega) (fun ns h => by have := c2 ns h; omega)
      have f1 := spec_CoverageOf (s := s) (o := o) h1 h2 h5
      have f2 := impl_CoverageOf (s := s) (o := o) h1 h2 h5
      generalize covD s o nx ou ws = z at *
      have q3 : AC Try.prog 28 [mach s o nx ou, mach s o nx ou] (.bool true) := by
        have := laws_eqMachine (s := s) (o := o) (s' := s) (o' := o) h1 h2 h1 h2
        simp only [decide_true, Bool.and_self, Bool.and_true] at this
        exact this
      have q4 : AC Try.prog 34 [rows ws, rows ws] (.bool true) := by
        have := laws_eqInt64SS (a := ws) (b := ws) h5 h5
        simpa using this
      unfold mach at *
      refine ac_intro tabIs _ Try.func8 rfl rfl Try.ntmps8 rfl rfl fun w0 ok0 => ?_
      repeat' (first | refine awp_seq ?_ | refine then_n ?_ | refine then_r ?_ | refine then_x ?_ | refine block_n ?_ | refine block_r ?_ | refine block_x ?_ | refine u_y ?_ | refine loop_r ?_ | refine loop_x ?_ | refine awp_region ?_ | refine awpL_nil ?_ | refine awpQL_nil ?_ | refine awp_block ?_ | refine awp_skip ?_ | refine awp_exit ?_ | refine awp_label ?_ | refine u_dT ?_ | refine u_d ?_ | ((first | apply c_l | apply c_q | apply c_lr | apply c_qr); (iterate 2 exact rfl); (focus (first | exact e1 | exact e2 | exact t1 | exact t2 | exact f1 | exact f2 | exact q3 | exact q4)); (iterate 2 exact rfl)) | (apply v_c; (iterate 4 exact rfl); (focus (first | exact e1 | exact e2 | exact t1 | exact t2 | exact f1 | exact f2 | exact q3 | exact q4)); (iterate 2 exact rfl)) | refine u_l ?_ | refine u_o ?_ | refine u_q ?_ | refine u_lr ?_ | refine u_qr ?_ | refine u_ls ?_ | refine u_qs ?_ | refine u_t ?_ | refine u_f ?_ | refine v_s ?_ | refine v_o ?_ | refine v_on ?_ | refine v_og ?_ | refine v_q ?_ | refine v_sr ?_ | refine v_k ?_ | refine m_nil ?_ | ((first | refine u_sl ?_ ?_ | refine u_sq ?_ ?_) <;> (intro hb; try (simp at hb; done))) | (refine u_c ?_ ?_ <;> (intro hc; try (simp at hc; done))) | refine awp_ret ?_ | refine u_r ?_ | refine u_rC ?_)
      all_goals simp_all

end Go.Proofs.Ytkomkhigcdkpdaa
