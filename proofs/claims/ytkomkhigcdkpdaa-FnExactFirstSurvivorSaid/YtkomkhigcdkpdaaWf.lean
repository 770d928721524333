/- Contracts of what tells valid machines, words, suites and how many mutants a machine has, in the program and in the reference. No condition. -/
import Derived.Test.YtkomkhigcdkpdaaWe
namespace Go.Proofs.Ytkomkhigcdkpdaa
open Go
attribute [local irreducible] awp awpL awpQL awpQ awpM pWalk Qt AC thenQ blockQ loopQ OpTo
set_option linter.unusedVariables false
set_option linter.unusedSimpArgs false
set_option maxHeartbeats 2000000

/-- A machine's data. -/
def mach (s o : Int) (nx ou : List (List Int)) : D := .agg [.int .i64 s, .int .i64 o, rows nx, rows ou]
def machOk (s o : Int) (nx ou : List (List Int)) : Bool := autoOk s nx && (inB o 1 3 && (decide ((ou.length : Int) = nx.length) && ou.all (rowOk s o)))

theorem spec_l06Plain {s o : Int} {nx ou : List (List Int)} : AC Try.prog 106 [.ptr (mach s o nx ou)] (.agg [.int .i64 s, rows nx]) := by
  unfold mach
  refine ac_introC tabIs _ Try.func106 rfl rfl Try.ntmps106 rfl rfl fun w0 ok0 => ?_
  repeat' (first | refine awp_seq ?_ | refine then_n ?_ | refine then_r ?_ | refine then_x ?_ | refine block_n ?_ | refine block_r ?_ | refine block_x ?_ | refine u_y ?_ | refine loop_r ?_ | refine loop_x ?_ | refine awp_region ?_ | refine awpL_nil ?_ | refine awpQL_nil ?_ | refine awp_block ?_ | refine awp_skip ?_ | refine awp_exit ?_ | refine awp_label ?_ | refine u_dT ?_ | refine u_d ?_ | refine u_l ?_ | refine u_o ?_ | refine u_q ?_ | refine u_lr ?_ | refine u_qr ?_ | refine u_ls ?_ | refine u_qs ?_ | refine u_t ?_ | refine u_f ?_ | refine v_s ?_ | refine v_o ?_ | refine v_on ?_ | refine v_og ?_ | refine v_q ?_ | refine v_sr ?_ | refine v_k ?_ | refine m_nil ?_ | ((first | refine u_sl ?_ ?_ | refine u_sq ?_ ?_) <;> (intro hb; try (simp at hb; done))) | (refine u_c ?_ ?_ <;> (intro hc; try (simp at hc; done))) | refine awp_ret ?_ | refine u_r ?_ | refine u_rC ?_)
  all_goals rfl

theorem spec_l06Ok {s o : Int} {nx ou : List (List Int)} (h1 : RowsOk nx) (h2 : RowsOk ou) : AC Try.prog 59 [.ptr (mach s o nx ou)] (.bool (machOk s o nx ou)) := by
  have hp := @spec_l06Plain s o nx ou
  unfold mach at hp ⊢
  have hle1 : (List.map ints nx).length = nx.length := by simp
  have hle2 : (List.map ints ou).length = ou.length := by simp
  cases ha : autoOk s nx
  · have hw : AC Try.prog 93 [.ptr (.agg [.int .i64 s, rows nx])] (.bool false) := ha ▸ spec_l01Ok h1
    refine ac_intro tabIs _ Try.func59 rfl rfl Try.ntmps59 rfl rfl fun w0 ok0 => ?_
    repeat (first | refine awp_seq ?_ | refine then_n ?_ | refine then_r ?_ | refine then_x ?_ | refine block_n ?_ | refine block_r ?_ | refine block_x ?_ | refine u_y ?_ | refine loop_r ?_ | refine loop_x ?_ | refine awp_region ?_ | refine awpL_nil ?_ | refine awpQL_nil ?_ | refine awp_block ?_ | refine awp_skip ?_ | refine awp_exit ?_ | refine awp_label ?_ | refine u_dT ?_ | refine u_d ?_ | ((first | apply c_l | apply c_q | apply c_lr | apply c_qr); (iterate 2 exact rfl); (focus (first | exact hp | exact hw)); (iterate 2 exact rfl)) | (apply v_c; (iterate 4 exact rfl); (focus (first | exact hp | exact hw)); (iterate 2 exact rfl)) | refine u_l ?_ | refine u_o ?_ | refine u_q ?_ | refine u_lr ?_ | refine u_qr ?_ | refine u_ls ?_ | refine u_qs ?_ | refine u_t ?_ | refine u_f ?_ | refine v_s ?_ | refine v_o ?_ | refine v_on ?_ | refine v_og ?_ | refine v_q ?_ | refine v_sr ?_ | refine v_k ?_ | refine m_nil ?_)
    (refine awp_ret ?_; (repeat (first | refine then_r ?_ | refine block_r ?_ | refine loop_r ?_)); apply ret_ok (.inr rfl); (focus exact rfl))
    simp [machOk, ha]
  · have hw : AC Try.prog 93 [.ptr (.agg [.int .i64 s, rows nx])] (.bool true) := ha ▸ spec_l01Ok h1
    cases hb : inB o 1 3
    · have hv : AC Try.prog 60 [.int .i64 o, .int .i64 1, .int .i64 3] (.bool false) := hb ▸ spec_l00In
      refine ac_intro tabIs _ Try.func59 rfl rfl Try.ntmps59 rfl rfl fun w0 ok0 => ?_
      repeat (first | refine awp_seq ?_ | refine then_n ?_ | refine then_r ?_ | refine then_x ?_ | refine block_n ?_ | refine block_r ?_ | refine block_x ?_ | refine u_y ?_ | refine loop_r ?_ | refine loop_x ?_ | refine awp_region ?_ | refine awpL_nil ?_ | refine awpQL_nil ?_ | refine awp_block ?_ | refine awp_skip ?_ | refine awp_exit ?_ | refine awp_label ?_ | refine u_dT ?_ | refine u_d ?_ | ((first | apply c_l | apply c_q | apply c_lr | apply c_qr); (iterate 2 exact rfl); (focus (first | exact hp | exact hw | exact hv)); (iterate 2 exact rfl)) | (apply v_c; (iterate 4 exact rfl); (focus (first | exact hp | exact hw | exact hv)); (iterate 2 exact rfl)) | refine u_l ?_ | refine u_o ?_ | refine u_q ?_ | refine u_lr ?_ | refine u_qr ?_ | refine u_ls ?_ | refine u_qs ?_ | refine u_t ?_ | refine u_f ?_ | refine v_s ?_ | refine v_o ?_ | refine v_on ?_ | refine v_og ?_ | refine v_q ?_ | refine v_sr ?_ | refine v_k ?_ | refine m_nil ?_)
      (refine awp_ret ?_; (repeat (first | refine then_r ?_ | refine block_r ?_ | refine loop_r ?_)); apply ret_ok (.inr rfl); (focus exact rfl))
      simp [machOk, hb]
    · have hv : AC Try.prog 60 [.int .i64 o, .int .i64 1, .int .i64 3] (.bool true) := hb ▸ spec_l00In
      have ho : 1 ≤ o ∧ o ≤ 3 := by simpa [inB] using hb
      by_cases hl : (ou.length : Int) = nx.length
      · have hl' : ((List.map ints ou).length : Int) = (List.map ints nx).length := by rw [hle1, hle2]; exact hl
        have hb1 := h2.2
        refine ac_intro tabIs _ Try.func59 rfl rfl Try.ntmps59 rfl rfl fun w0 ok0 => ?_
        repeat (first | refine awp_seq ?_ | refine then_n ?_ | refine then_r ?_ | refine then_x ?_ | refine block_n ?_ | refine block_r ?_ | refine block_x ?_ | refine u_y ?_ | refine loop_r ?_ | refine loop_x ?_ | refine awp_region ?_ | refine awpL_nil ?_ | refine awpQL_nil ?_ | refine awp_block ?_ | refine awp_skip ?_ | refine awp_exit ?_ | refine awp_label ?_ | refine u_dT ?_ | refine u_d ?_ | ((first | apply c_l | apply c_q | apply c_lr | apply c_qr); (iterate 2 exact rfl); (focus (first | exact hp | exact hw | exact hv)); (iterate 2 exact rfl)) | (apply v_c; (iterate 4 exact rfl); (focus (first | exact hp | exact hw | exact hv)); (iterate 2 exact rfl)) | refine u_l ?_ | refine u_o ?_ | refine u_q ?_ | refine u_lr ?_ | refine u_qr ?_ | refine u_ls ?_ | refine u_qs ?_ | refine u_t ?_ | refine u_f ?_ | refine v_s ?_ | refine v_o ?_ | refine v_on ?_ | refine v_og ?_ | refine v_q ?_ | refine v_sr ?_ | refine v_k ?_ | refine m_nil ?_)
        refine awp_loop (fun k : Nat => k ≤ ou.length ∧ (ou.drop k).all (rowOk s o) = ou.all (rowOk s o))
          (fun k => [(0, .d (.ptr (.agg [.int .i64 s, .int .i64 o, rows nx, rows ou]))), (4, .d (.int .i64 k))]) (fun _ => [(3, .box [.d (.int .i64 s), .d (rows nx)])]) (fun k => ou.length - k) 0 (by simp) ?_ rfl ?_
        · ((repeat (first | exact trivial | (refine ⟨?_, ?_⟩; (focus (first | rfl | (simp [lk, argsS, args0]; done) | (simp [lk, argsS, args0]; omega)))))))
        · rintro k ⟨hk, hf⟩
          by_cases hlt : k < ou.length
          · have hx := el_row hlt
            have hl2 : ou[k].length ≤ 9223372036854775807 := (h2.1 _ (List.getElem_mem hlt)).2
            have hle3 : (List.map (D.int IntKind.i64) ou[k]).length = ou[k].length := by simp
            rw [all_drop _ hlt] at hf
            by_cases hs : (ou[k].length : Int) = s
            · have hs' : ((List.map (D.int IntKind.i64) ou[k]).length : Int) = s := by rw [hle3]; exact hs
              repeat (first | refine awp_seq ?_ | refine then_n ?_ | refine then_r ?_ | refine then_x ?_ | refine block_n ?_ | refine block_r ?_ | refine block_x ?_ | refine u_y ?_ | refine loop_r ?_ | refine loop_x ?_ | refine awp_region ?_ | refine awpL_nil ?_ | refine awpQL_nil ?_ | refine awp_block ?_ | refine awp_skip ?_ | refine awp_exit ?_ | refine awp_label ?_ | refine u_dT ?_ | refine u_d ?_ | refine u_l ?_ | refine u_o ?_ | refine u_q ?_ | refine u_lr ?_ | refine u_qr ?_ | refine u_ls ?_ | refine u_qs ?_ | refine u_t ?_ | refine u_f ?_ | refine v_s ?_ | refine v_o ?_ | refine v_on ?_ | refine v_og ?_ | refine v_q ?_ | refine v_sr ?_ | refine v_k ?_ | refine m_nil ?_)
              refine awp_loop (fun j : Nat => j ≤ ou[k].length ∧ allIn (ou[k].drop j) 0 (o - 1) = allIn ou[k] 0 (o - 1))
                (fun j => [(0, .d (.ptr (.agg [.int .i64 s, .int .i64 o, rows nx, rows ou]))), (4, .d (.int .i64 k)), (5, .d (.int .i64 j))]) (fun _ => [(3, .box [.d (.int .i64 s), .d (rows nx)])]) (fun j => ou[k].length - j) 0 (by simp) ?_ rfl ?_
              · ((repeat (first | exact trivial | (refine ⟨?_, ?_⟩; (focus (first | rfl | (simp [lk, argsS, args0]; done) | (simp [lk, argsS, args0]; omega)))))))
              · rintro j ⟨hj, hg⟩
                by_cases hlt2 : j < ou[k].length
                · have hy := el_int hlt2
                  unfold allIn at hg
                  rw [all_drop _ hlt2] at hg
                  cases hc : inB ou[k][j] 0 (o - 1)
                  · have hz : AC Try.prog 60 [.int .i64 ou[k][j], .int .i64 0, .int .i64 (o - 1)] (.bool false) := hc ▸ spec_l00In
                    repeat (first | refine awp_seq ?_ | refine then_n ?_ | refine then_r ?_ | refine then_x ?_ | refine block_n ?_ | refine block_r ?_ | refine block_x ?_ | refine u_y ?_ | refine loop_r ?_ | refine loop_x ?_ | refine awp_region ?_ | refine awpL_nil ?_ | refine awpQL_nil ?_ | refine awp_block ?_ | refine awp_skip ?_ | refine awp_exit ?_ | refine awp_label ?_ | refine u_dT ?_ | refine u_d ?_ | ((first | apply c_l | apply c_q | apply c_lr | apply c_qr); (iterate 2 exact rfl); (focus (first | exact hz)); (iterate 2 exact rfl)) | (apply v_c; (iterate 4 exact rfl); (focus (first | exact hz)); (iterate 2 exact rfl)) | refine u_l ?_ | refine u_o ?_ | refine u_q ?_ | refine u_lr ?_ | refine u_qr ?_ | refine u_ls ?_ | refine u_qs ?_ | refine u_t ?_ | refine u_f ?_ | refine v_s ?_ | refine v_o ?_ | refine v_on ?_ | refine v_og ?_ | refine v_q ?_ | refine v_sr ?_ | refine v_k ?_ | refine m_nil ?_)
                    (refine awp_ret ?_; (repeat (first | refine then_r ?_ | refine block_r ?_ | refine loop_r ?_)); apply ret_ok (.inr rfl); (focus exact rfl))
                    rw [hc] at hg
                    simp only [Bool.false_and] at hg
                    have : rowOk s o ou[k] = false := by simp [rowOk, allIn, ← hg]
                    rw [this] at hf
                    simp only [Bool.false_and] at hf
                    simp [machOk, ← hf]
                  · have hz : AC Try.prog 60 [.int .i64 ou[k][j], .int .i64 0, .int .i64 (o - 1)] (.bool true) := hc ▸ spec_l00In
                    repeat (first | refine awp_seq ?_ | refine then_n ?_ | refine then_r ?_ | refine then_x ?_ | refine block_n ?_ | refine block_r ?_ | refine block_x ?_ | refine u_y ?_ | refine loop_r ?_ | refine loop_x ?_ | refine awp_region ?_ | refine awpL_nil ?_ | refine awpQL_nil ?_ | refine awp_block ?_ | refine awp_skip ?_ | refine awp_exit ?_ | refine awp_label ?_ | refine u_dT ?_ | refine u_d ?_ | ((first | apply c_l | apply c_q | apply c_lr | apply c_qr); (iterate 2 exact rfl); (focus (first | exact hz)); (iterate 2 exact rfl)) | (apply v_c; (iterate 4 exact rfl); (focus (first | exact hz)); (iterate 2 exact rfl)) | refine u_l ?_ | refine u_o ?_ | refine u_q ?_ | refine u_lr ?_ | refine u_qr ?_ | refine u_ls ?_ | refine u_qs ?_ | refine u_t ?_ | refine u_f ?_ | refine v_s ?_ | refine v_o ?_ | refine v_on ?_ | refine v_og ?_ | refine v_q ?_ | refine v_sr ?_ | refine v_k ?_ | refine m_nil ?_)
                    rw [hc] at hg
                    refine loop_n (j + 1) ⟨by omega, by simpa [allIn] using hg⟩ ?_ rfl (by omega)
                    ((repeat (first | exact trivial | (refine ⟨?_, ?_⟩; (focus (first | rfl | (simp [lk, argsS, args0]; done) | (simp [lk, argsS, args0]; omega)))))))
                · have : j = ou[k].length := by omega
                  subst this
                  simp only [List.drop_length, allIn, List.all_nil] at hg
                  have : rowOk s o ou[k] = true := by simp only [rowOk, allIn, ← hg]; simp [hs]
                  rw [this] at hf
                  repeat (first | refine awp_seq ?_ | refine then_n ?_ | refine then_r ?_ | refine then_x ?_ | refine block_n ?_ | refine block_r ?_ | refine block_x ?_ | refine u_y ?_ | refine loop_r ?_ | refine loop_x ?_ | refine awp_region ?_ | refine awpL_nil ?_ | refine awpQL_nil ?_ | refine awp_block ?_ | refine awp_skip ?_ | refine awp_exit ?_ | refine awp_label ?_ | refine u_dT ?_ | refine u_d ?_ | refine u_l ?_ | refine u_o ?_ | refine u_q ?_ | refine u_lr ?_ | refine u_qr ?_ | refine u_ls ?_ | refine u_qs ?_ | refine u_t ?_ | refine u_f ?_ | refine v_s ?_ | refine v_o ?_ | refine v_on ?_ | refine v_og ?_ | refine v_q ?_ | refine v_sr ?_ | refine v_k ?_ | refine m_nil ?_)
                  refine loop_n (k + 1) ⟨by omega, by simpa using hf⟩ ?_ rfl (by omega)
                  ((repeat (first | exact trivial | (refine ⟨?_, ?_⟩; (focus (first | rfl | (simp [lk, argsS, args0]; done) | (simp [lk, argsS, args0]; omega)))))))
            · have hs' : ¬ ((List.map (D.int IntKind.i64) ou[k]).length : Int) = s := by rw [hle3]; exact hs
              have : rowOk s o ou[k] = false := by simp [rowOk, hs]
              rw [this] at hf
              simp only [Bool.false_and] at hf
              repeat (first | refine awp_seq ?_ | refine then_n ?_ | refine then_r ?_ | refine then_x ?_ | refine block_n ?_ | refine block_r ?_ | refine block_x ?_ | refine u_y ?_ | refine loop_r ?_ | refine loop_x ?_ | refine awp_region ?_ | refine awpL_nil ?_ | refine awpQL_nil ?_ | refine awp_block ?_ | refine awp_skip ?_ | refine awp_exit ?_ | refine awp_label ?_ | refine u_dT ?_ | refine u_d ?_ | refine u_l ?_ | refine u_o ?_ | refine u_q ?_ | refine u_lr ?_ | refine u_qr ?_ | refine u_ls ?_ | refine u_qs ?_ | refine u_t ?_ | refine u_f ?_ | refine v_s ?_ | refine v_o ?_ | refine v_on ?_ | refine v_og ?_ | refine v_q ?_ | refine v_sr ?_ | refine v_k ?_ | refine m_nil ?_)
              (refine awp_ret ?_; (repeat (first | refine then_r ?_ | refine block_r ?_ | refine loop_r ?_)); apply ret_ok (.inr rfl); (focus exact rfl))
              simp [machOk, ← hf]
          · have : k = ou.length := by omega
            subst this
            repeat (first | refine awp_seq ?_ | refine then_n ?_ | refine then_r ?_ | refine then_x ?_ | refine block_n ?_ | refine block_r ?_ | refine block_x ?_ | refine u_y ?_ | refine loop_r ?_ | refine loop_x ?_ | refine awp_region ?_ | refine awpL_nil ?_ | refine awpQL_nil ?_ | refine awp_block ?_ | refine awp_skip ?_ | refine awp_exit ?_ | refine awp_label ?_ | refine u_dT ?_ | refine u_d ?_ | refine u_l ?_ | refine u_o ?_ | refine u_q ?_ | refine u_lr ?_ | refine u_qr ?_ | refine u_ls ?_ | refine u_qs ?_ | refine u_t ?_ | refine u_f ?_ | refine v_s ?_ | refine v_o ?_ | refine v_on ?_ | refine v_og ?_ | refine v_q ?_ | refine v_sr ?_ | refine v_k ?_ | refine m_nil ?_)
            (refine awp_ret ?_; (repeat (first | refine then_r ?_ | refine block_r ?_ | refine loop_r ?_)); apply ret_ok (.inr rfl); (focus exact rfl))
            simp only [List.drop_length, List.all_nil] at hf
            simp [machOk, ← hf, ha, hb, hl]
      · have hl' : ¬ ((List.map ints ou).length : Int) = (List.map ints nx).length := by rw [hle1, hle2]; exact hl
        refine ac_intro tabIs _ Try.func59 rfl rfl Try.ntmps59 rfl rfl fun w0 ok0 => ?_
        repeat (first | refine awp_seq ?_ | refine then_n ?_ | refine then_r ?_ | refine then_x ?_ | refine block_n ?_ | refine block_r ?_ | refine block_x ?_ | refine u_y ?_ | refine loop_r ?_ | refine loop_x ?_ | refine awp_region ?_ | refine awpL_nil ?_ | refine awpQL_nil ?_ | refine awp_block ?_ | refine awp_skip ?_ | refine awp_exit ?_ | refine awp_label ?_ | refine u_dT ?_ | refine u_d ?_ | ((first | apply c_l | apply c_q | apply c_lr | apply c_qr); (iterate 2 exact rfl); (focus (first | exact hp | exact hw | exact hv)); (iterate 2 exact rfl)) | (apply v_c; (iterate 4 exact rfl); (focus (first | exact hp | exact hw | exact hv)); (iterate 2 exact rfl)) | refine u_l ?_ | refine u_o ?_ | refine u_q ?_ | refine u_lr ?_ | refine u_qr ?_ | refine u_ls ?_ | refine u_qs ?_ | refine u_t ?_ | refine u_f ?_ | refine v_s ?_ | refine v_o ?_ | refine v_on ?_ | refine v_og ?_ | refine v_q ?_ | refine v_sr ?_ | refine v_k ?_ | refine m_nil ?_)
        (refine awp_ret ?_; (repeat (first | refine then_r ?_ | refine block_r ?_ | refine loop_r ?_)); apply ret_ok (.inr rfl); (focus exact rfl))
        simp [machOk, hl]

theorem impl_forget {s o : Int} {nx ou : List (List Int)} : AC Try.prog 122 [mach s o nx ou] (.agg [.int .i64 s, rows nx]) := by
  unfold mach
  refine ac_introC tabIs _ Try.func122 rfl rfl Try.ntmps122 rfl rfl fun w0 ok0 => ?_
  repeat' (first | refine awp_seq ?_ | refine then_n ?_ | refine then_r ?_ | refine then_x ?_ | refine block_n ?_ | refine block_r ?_ | refine block_x ?_ | refine u_y ?_ | refine loop_r ?_ | refine loop_x ?_ | refine awp_region ?_ | refine awpL_nil ?_ | refine awpQL_nil ?_ | refine awp_block ?_ | refine awp_skip ?_ | refine awp_exit ?_ | refine awp_label ?_ | refine u_dT ?_ | refine u_d ?_ | refine u_l ?_ | refine u_o ?_ | refine u_q ?_ | refine u_lr ?_ | refine u_qr ?_ | refine u_ls ?_ | refine u_qs ?_ | refine u_t ?_ | refine u_f ?_ | refine v_s ?_ | refine v_o ?_ | refine v_on ?_ | refine v_og ?_ | refine v_q ?_ | refine v_sr ?_ | refine v_k ?_ | refine m_nil ?_ | ((first | refine u_sl ?_ ?_ | refine u_sq ?_ ?_) <;> (intro hb; try (simp at hb; done))) | (refine u_c ?_ ?_ <;> (intro hc; try (simp at hc; done))) | refine awp_ret ?_ | refine u_r ?_ | refine u_rC ?_)
  all_goals rfl

theorem impl_ValidMachine1 {s o : Int} {nx ou : List (List Int)} {ns : List Int} (ho : 1 ≤ o ∧ o ≤ 3) (hl : ns.length ≤ 9223372036854775807) : AC Try.prog 138 [ints ns, .ptr (mach s o nx ou)] (.bool (!rowOk s o ns)) := by
  unfold mach
  refine ac_intro tabIs _ Try.func138 rfl rfl Try.ntmps138 rfl rfl fun w0 ok0 => ?_
  repeat' (first | refine awp_seq ?_ | refine then_n ?_ | refine then_r ?_ | refine then_x ?_ | refine block_n ?_ | refine block_r ?_ | refine block_x ?_ | refine u_y ?_ | refine loop_r ?_ | refine loop_x ?_ | refine awp_region ?_ | refine awpL_nil ?_ | refine awpQL_nil ?_ | refine awp_block ?_ | refine awp_skip ?_ | refine awp_exit ?_ | refine awp_label ?_ | refine u_dT ?_ | refine u_d ?_ | ((first | apply c_l | apply c_q | apply c_lr | apply c_qr); (iterate 2 exact rfl); (focus (first | exact impl_size1 | (apply impl_areWithin; (iterate 1 (focus (first | assumption | omega | (simp; omega) | (simp; done) | rfl)))))); (iterate 2 exact rfl)) | (apply v_c; (iterate 4 exact rfl); (focus (first | exact impl_size1 | (apply impl_areWithin; (iterate 1 (focus (first | assumption | omega | (simp; omega) | (simp; done) | rfl)))))); (iterate 2 exact rfl)) | refine u_l ?_ | refine u_o ?_ | refine u_q ?_ | refine u_lr ?_ | refine u_qr ?_ | refine u_ls ?_ | refine u_qs ?_ | refine u_t ?_ | refine u_f ?_ | refine v_s ?_ | refine v_o ?_ | refine v_on ?_ | refine v_og ?_ | refine v_q ?_ | refine v_sr ?_ | refine v_k ?_ | refine m_nil ?_ | ((first | refine u_sl ?_ ?_ | refine u_sq ?_ ?_) <;> (intro hb; try (simp at hb; done))) | (refine u_c ?_ ?_ <;> (intro hc; try (simp at hc; done))) | refine awp_ret ?_ | refine u_r ?_ | refine u_rC ?_)
  all_goals simp_all [rowOk]

theorem impl_ValidMachine {s o : Int} {nx ou : List (List Int)} (h1 : RowsOk nx) (h2 : RowsOk ou) : AC Try.prog 108 [mach s o nx ou] (.bool (machOk s o nx ou)) := by
  have hp := @impl_forget s o nx ou
  have hle1 : (List.map ints nx).length = nx.length := by simp
  have hle2 : (List.map ints ou).length = ou.length := by simp
  cases ha : autoOk s nx
  · have hw : AC Try.prog 130 [.agg [.int .i64 s, rows nx]] (.bool false) := ha ▸ impl_ValidAutomaton h1
    unfold mach at hp ⊢
    refine ac_intro tabIs _ Try.func108 rfl rfl Try.ntmps108 rfl rfl fun w0 ok0 => ?_
    repeat' (first | refine awp_seq ?_ | refine then_n ?_ | refine then_r ?_ | refine then_x ?_ | refine block_n ?_ | refine block_r ?_ | refine block_x ?_ | refine u_y ?_ | refine loop_r ?_ | refine loop_x ?_ | refine awp_region ?_ | refine awpL_nil ?_ | refine awpQL_nil ?_ | refine awp_block ?_ | refine awp_skip ?_ | refine awp_exit ?_ | refine awp_label ?_ | refine u_dT ?_ | refine u_d ?_ | ((first | apply c_l | apply c_q | apply c_lr | apply c_qr); (iterate 2 exact rfl); (focus (first | exact hp | exact hw)); (iterate 2 exact rfl)) | (apply v_c; (iterate 4 exact rfl); (focus (first | exact hp | exact hw)); (iterate 2 exact rfl)) | refine u_l ?_ | refine u_o ?_ | refine u_q ?_ | refine u_lr ?_ | refine u_qr ?_ | refine u_ls ?_ | refine u_qs ?_ | refine u_t ?_ | refine u_f ?_ | refine v_s ?_ | refine v_o ?_ | refine v_on ?_ | refine v_og ?_ | refine v_q ?_ | refine v_sr ?_ | refine v_k ?_ | refine m_nil ?_ | ((first | refine u_sl ?_ ?_ | refine u_sq ?_ ?_) <;> (intro hb; try (simp at hb; done))) | (refine u_c ?_ ?_ <;> (intro hc; try (simp at hc; done))) | refine awp_ret ?_ | refine u_r ?_ | refine u_rC ?_)
    all_goals simp [machOk, ha]
  · have hw : AC Try.prog 130 [.agg [.int .i64 s, rows nx]] (.bool true) := ha ▸ impl_ValidAutomaton h1
    cases hb : inB o 1 3
    · have hv : AC Try.prog 65 [.int .i64 o, .int .i64 1, .int .i64 3] (.bool false) := hb ▸ impl_within
      unfold mach at hp ⊢
      refine ac_intro tabIs _ Try.func108 rfl rfl Try.ntmps108 rfl rfl fun w0 ok0 => ?_
      repeat' (first | refine awp_seq ?_ | refine then_n ?_ | refine then_r ?_ | refine then_x ?_ | refine block_n ?_ | refine block_r ?_ | refine block_x ?_ | refine u_y ?_ | refine loop_r ?_ | refine loop_x ?_ | refine awp_region ?_ | refine awpL_nil ?_ | refine awpQL_nil ?_ | refine awp_block ?_ | refine awp_skip ?_ | refine awp_exit ?_ | refine awp_label ?_ | refine u_dT ?_ | refine u_d ?_ | ((first | apply c_l | apply c_q | apply c_lr | apply c_qr); (iterate 2 exact rfl); (focus (first | exact hp | exact hw | exact hv)); (iterate 2 exact rfl)) | (apply v_c; (iterate 4 exact rfl); (focus (first | exact hp | exact hw | exact hv)); (iterate 2 exact rfl)) | refine u_l ?_ | refine u_o ?_ | refine u_q ?_ | refine u_lr ?_ | refine u_qr ?_ | refine u_ls ?_ | refine u_qs ?_ | refine u_t ?_ | refine u_f ?_ | refine v_s ?_ | refine v_o ?_ | refine v_on ?_ | refine v_og ?_ | refine v_q ?_ | refine v_sr ?_ | refine v_k ?_ | refine m_nil ?_ | ((first | refine u_sl ?_ ?_ | refine u_sq ?_ ?_) <;> (intro hb; try (simp at hb; done))) | (refine u_c ?_ ?_ <;> (intro hc; try (simp at hc; done))) | refine awp_ret ?_ | refine u_r ?_ | refine u_rC ?_)
      all_goals simp [machOk, hb]
    · have hv : AC Try.prog 65 [.int .i64 o, .int .i64 1, .int .i64 3] (.bool true) := hb ▸ impl_within
      have ho : 1 ≤ o ∧ o ≤ 3 := by simpa [inB] using hb
      have hc : AC Try.prog 112 [rows ou, .fn 138 [.ptr (.agg [.int .i64 s, .int .i64 o, rows nx, rows ou])]] (.bool (ou.any fun ns => !rowOk s o ns)) := containsFunc_row _ (fun ns hn => impl_ValidMachine1 (s := s) (nx := nx) (ou := ou) ho (h2.1 ns hn).2) h2.2
      unfold mach at hp ⊢
      refine ac_intro tabIs _ Try.func108 rfl rfl Try.ntmps108 rfl rfl fun w0 ok0 => ?_
      repeat' (first | refine awp_seq ?_ | refine then_n ?_ | refine then_r ?_ | refine then_x ?_ | refine block_n ?_ | refine block_r ?_ | refine block_x ?_ | refine u_y ?_ | refine loop_r ?_ | refine loop_x ?_ | refine awp_region ?_ | refine awpL_nil ?_ | refine awpQL_nil ?_ | refine awp_block ?_ | refine awp_skip ?_ | refine awp_exit ?_ | refine awp_label ?_ | refine u_dT ?_ | refine u_d ?_ | ((first | apply c_l | apply c_q | apply c_lr | apply c_qr); (iterate 2 exact rfl); (focus (first | exact hp | exact hw | exact hv | exact hc)); (iterate 2 exact rfl)) | (apply v_c; (iterate 4 exact rfl); (focus (first | exact hp | exact hw | exact hv | exact hc)); (iterate 2 exact rfl)) | refine u_l ?_ | refine u_o ?_ | refine u_q ?_ | refine u_lr ?_ | refine u_qr ?_ | refine u_ls ?_ | refine u_qs ?_ | refine u_t ?_ | refine u_f ?_ | refine v_s ?_ | refine v_o ?_ | refine v_on ?_ | refine v_og ?_ | refine v_q ?_ | refine v_sr ?_ | refine v_k ?_ | refine m_nil ?_ | ((first | refine u_sl ?_ ?_ | refine u_sq ?_ ?_) <;> (intro hb; try (simp at hb; done))) | (refine u_c ?_ ?_ <;> (intro hc; try (simp at hc; done))) | refine awp_ret ?_ | refine u_r ?_ | refine u_rC ?_)
      all_goals simp_all [machOk, List.not_any_eq_all_not]


end Go.Proofs.Ytkomkhigcdkpdaa
