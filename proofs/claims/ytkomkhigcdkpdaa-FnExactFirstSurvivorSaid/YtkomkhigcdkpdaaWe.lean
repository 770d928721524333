/- Contracts of how the laws' package measures, copies and compares lit automata; the law of ValidLit. No condition. -/
import Derived.Test.YtkomkhigcdkpdaaWd
namespace Go.Proofs.Ytkomkhigcdkpdaa
open Go
attribute [local irreducible] awp awpL awpQL awpQ awpM pWalk Qt AC thenQ blockQ loopQ OpTo
set_option linter.unusedVariables false
set_option linter.unusedSimpArgs false
set_option maxHeartbeats 2000000

theorem szR_sign {nx : List (List Int)} {left : Int} (h : 0 ≤ left) : -1 ≤ szR nx left := by
  have : ∀ (l : List (List Int)) (left : Int), 0 ≤ left → -1 ≤ szLs left l := by
    intro l
    induction l with
    | nil => intro left h; simp [szLs]; omega
    | cons x l ih =>
      intro left h
      unfold szLs
      split
      · omega
      · exact ih _ (by omega)
  unfold szR
  split
  · omega
  · exact this _ _ (by omega)

def szA (nx : List (List Int)) (left : Int) : Int := if szR nx left < 0 then -1 else szR nx left

theorem laws_szAutomaton {s : Int} {nx : List (List Int)} {left : Int} (h1 : RowsOk nx) (h2 : 0 ≤ left ∧ left ≤ 1048576) : AC Try.prog 42 [.agg [.int .i64 s, rows nx], .int .i64 left] (.int .i64 (szA nx left)) := by
  by_cases hc : szR nx left < 0
  · refine ac_intro tabIs _ Try.func42 rfl rfl Try.ntmps42 rfl rfl fun w0 ok0 => ?_
    repeat (first | refine awp_seq ?_ | refine then_n ?_ | refine then_r ?_ | refine then_x ?_ | refine block_n ?_ | refine block_r ?_ | refine block_x ?_ | refine u_y ?_ | refine loop_r ?_ | refine loop_x ?_ | refine awp_region ?_ | refine awpL_nil ?_ | refine awpQL_nil ?_ | refine awp_block ?_ | refine awp_skip ?_ | refine awp_exit ?_ | refine awp_label ?_ | refine u_dT ?_ | refine u_d ?_ | ((first | apply c_l | apply c_q | apply c_lr | apply c_qr); (iterate 2 exact rfl); (focus (first | (apply laws_szInt64SS; (iterate 2 (focus (first | assumption | omega | (simp; omega) | (simp; done) | rfl)))))); (iterate 2 exact rfl)) | (apply v_c; (iterate 4 exact rfl); (focus (first | (apply laws_szInt64SS; (iterate 2 (focus (first | assumption | omega | (simp; omega) | (simp; done) | rfl)))))); (iterate 2 exact rfl)) | refine u_l ?_ | refine u_o ?_ | refine u_q ?_ | refine u_lr ?_ | refine u_qr ?_ | refine u_ls ?_ | refine u_qs ?_ | refine u_t ?_ | refine u_f ?_ | refine v_s ?_ | refine v_o ?_ | refine v_on ?_ | refine v_og ?_ | refine v_q ?_ | refine v_sr ?_ | refine v_k ?_ | refine m_nil ?_)
    (refine awp_ret ?_; (repeat (first | refine then_r ?_ | refine block_r ?_ | refine loop_r ?_)); apply ret_ok (.inr rfl); (focus exact rfl))
    simp only [szA, if_pos hc]
  · refine ac_intro tabIs _ Try.func42 rfl rfl Try.ntmps42 rfl rfl fun w0 ok0 => ?_
    repeat (first | refine awp_seq ?_ | refine then_n ?_ | refine then_r ?_ | refine then_x ?_ | refine block_n ?_ | refine block_r ?_ | refine block_x ?_ | refine u_y ?_ | refine loop_r ?_ | refine loop_x ?_ | refine awp_region ?_ | refine awpL_nil ?_ | refine awpQL_nil ?_ | refine awp_block ?_ | refine awp_skip ?_ | refine awp_exit ?_ | refine awp_label ?_ | refine u_dT ?_ | refine u_d ?_ | ((first | apply c_l | apply c_q | apply c_lr | apply c_qr); (iterate 2 exact rfl); (focus (first | (apply laws_szInt64SS; (iterate 2 (focus (first | assumption | omega | (simp; omega) | (simp; done) | rfl)))))); (iterate 2 exact rfl)) | (apply v_c; (iterate 4 exact rfl); (focus (first | (apply laws_szInt64SS; (iterate 2 (focus (first | assumption | omega | (simp; omega) | (simp; done) | rfl)))))); (iterate 2 exact rfl)) | refine u_l ?_ | refine u_o ?_ | refine u_q ?_ | refine u_lr ?_ | refine u_qr ?_ | refine u_ls ?_ | refine u_qs ?_ | refine u_t ?_ | refine u_f ?_ | refine v_s ?_ | refine v_o ?_ | refine v_on ?_ | refine v_og ?_ | refine v_q ?_ | refine v_sr ?_ | refine v_k ?_ | refine m_nil ?_)
    (refine awp_ret ?_; (repeat (first | refine then_r ?_ | refine block_r ?_ | refine loop_r ?_)); apply ret_ok (.inr rfl); (focus exact rfl))
    simp only [szA, if_neg hc]

theorem szA_ok {nx : List (List Int)} {left : Int} (h : 0 ≤ left) : szA nx left ≤ left ∧ -1 ≤ szA nx left ∧ (0 ≤ szA nx left → (nx.length : Int) ≤ left ∧ ∀ ns ∈ nx, (ns.length : Int) ≤ left) := by
  have := szR_ok (nss := nx) h
  have := szR_sign (nx := nx) h
  unfold szA
  split
  · omega
  · refine ⟨by omega, by omega, fun hh => (szR_ok h).2 hh⟩

def szLitF (nx : List (List Int)) (lp : List Int) (left : Int) : Int := if szA nx left < 0 then -1 else if szL lp.length (szA nx left) < 0 then -1 else szL lp.length (szA nx left)

theorem laws_szLit {s : Int} {nx : List (List Int)} {lp : List Int} {left : Int} (h1 : RowsOk nx) (h3 : lp.length ≤ 9223372036854775807) (h2 : 0 ≤ left ∧ left ≤ 1048576) : AC Try.prog 10 [.agg [.int .i64 s, rows nx, ints lp], .int .i64 left] (.int .i64 (szLitF nx lp left)) := by
  have hok := szA_ok (nx := nx) h2.1
  by_cases hc : szA nx left < 0
  · refine ac_intro tabIs _ Try.func10 rfl rfl Try.ntmps10 rfl rfl fun w0 ok0 => ?_
    repeat (first | refine awp_seq ?_ | refine then_n ?_ | refine then_r ?_ | refine then_x ?_ | refine block_n ?_ | refine block_r ?_ | refine block_x ?_ | refine u_y ?_ | refine loop_r ?_ | refine loop_x ?_ | refine awp_region ?_ | refine awpL_nil ?_ | refine awpQL_nil ?_ | refine awp_block ?_ | refine awp_skip ?_ | refine awp_exit ?_ | refine awp_label ?_ | refine u_dT ?_ | refine u_d ?_ | ((first | apply c_l | apply c_q | apply c_lr | apply c_qr); (iterate 2 exact rfl); (focus (first | (apply laws_szAutomaton; (iterate 2 (focus (first | assumption | omega | (simp; omega) | (simp; done) | rfl)))))); (iterate 2 exact rfl)) | (apply v_c; (iterate 4 exact rfl); (focus (first | (apply laws_szAutomaton; (iterate 2 (focus (first | assumption | omega | (simp; omega) | (simp; done) | rfl)))))); (iterate 2 exact rfl)) | refine u_l ?_ | refine u_o ?_ | refine u_q ?_ | refine u_lr ?_ | refine u_qr ?_ | refine u_ls ?_ | refine u_qs ?_ | refine u_t ?_ | refine u_f ?_ | refine v_s ?_ | refine v_o ?_ | refine v_on ?_ | refine v_og ?_ | refine v_q ?_ | refine v_sr ?_ | refine v_k ?_ | refine m_nil ?_)
    (refine awp_ret ?_; (repeat (first | refine then_r ?_ | refine block_r ?_ | refine loop_r ?_)); apply ret_ok (.inr rfl); (focus exact rfl))
    simp only [szLitF, if_pos hc]
  · have h4 : 0 ≤ szA nx left ∧ szA nx left ≤ 1048576 := by omega
    by_cases hd : szL lp.length (szA nx left) < 0
    · refine ac_intro tabIs _ Try.func10 rfl rfl Try.ntmps10 rfl rfl fun w0 ok0 => ?_
      repeat (first | refine awp_seq ?_ | refine then_n ?_ | refine then_r ?_ | refine then_x ?_ | refine block_n ?_ | refine block_r ?_ | refine block_x ?_ | refine u_y ?_ | refine loop_r ?_ | refine loop_x ?_ | refine awp_region ?_ | refine awpL_nil ?_ | refine awpQL_nil ?_ | refine awp_block ?_ | refine awp_skip ?_ | refine awp_exit ?_ | refine awp_label ?_ | refine u_dT ?_ | refine u_d ?_ | ((first | apply c_l | apply c_q | apply c_lr | apply c_qr); (iterate 2 exact rfl); (focus (first | (apply laws_szAutomaton; (iterate 2 (focus (first | assumption | omega | (simp; omega) | (simp; done) | rfl)))) | (apply laws_szInt64S; (iterate 2 (focus (first | assumption | omega | (simp; omega) | (simp; done) | rfl)))))); (iterate 2 exact rfl)) | (apply v_c; (iterate 4 exact rfl); (focus (first | (apply laws_szAutomaton; (iterate 2 (focus (first | assumption | omega | (simp; omega) | (simp; done) | rfl)))) | (apply laws_szInt64S; (iterate 2 (focus (first | assumption | omega | (simp; omega) | (simp; done) | rfl)))))); (iterate 2 exact rfl)) | refine u_l ?_ | refine u_o ?_ | refine u_q ?_ | refine u_lr ?_ | refine u_qr ?_ | refine u_ls ?_ | refine u_qs ?_ | refine u_t ?_ | refine u_f ?_ | refine v_s ?_ | refine v_o ?_ | refine v_on ?_ | refine v_og ?_ | refine v_q ?_ | refine v_sr ?_ | refine v_k ?_ | refine m_nil ?_)
      (refine awp_ret ?_; (repeat (first | refine then_r ?_ | refine block_r ?_ | refine loop_r ?_)); apply ret_ok (.inr rfl); (focus exact rfl))
      simp only [szLitF, if_neg hc, if_pos hd]
    · refine ac_intro tabIs _ Try.func10 rfl rfl Try.ntmps10 rfl rfl fun w0 ok0 => ?_
      repeat (first | refine awp_seq ?_ | refine then_n ?_ | refine then_r ?_ | refine then_x ?_ | refine block_n ?_ | refine block_r ?_ | refine block_x ?_ | refine u_y ?_ | refine loop_r ?_ | refine loop_x ?_ | refine awp_region ?_ | refine awpL_nil ?_ | refine awpQL_nil ?_ | refine awp_block ?_ | refine awp_skip ?_ | refine awp_exit ?_ | refine awp_label ?_ | refine u_dT ?_ | refine u_d ?_ | ((first | apply c_l | apply c_q | apply c_lr | apply c_qr); (iterate 2 exact rfl); (focus (first | (apply laws_szAutomaton; (iterate 2 (focus (first | assumption | omega | (simp; omega) | (simp; done) | rfl)))) | (apply laws_szInt64S; (iterate 2 (focus (first | assumption | omega | (simp; omega) | (simp; done) | rfl)))))); (iterate 2 exact rfl)) | (apply v_c; (iterate 4 exact rfl); (focus (first | (apply laws_szAutomaton; (iterate 2 (focus (first | assumption | omega | (simp; omega) | (simp; done) | rfl)))) | (apply laws_szInt64S; (iterate 2 (focus (first | assumption | omega | (simp; omega) | (simp; done) | rfl)))))); (iterate 2 exact rfl)) | refine u_l ?_ | refine u_o ?_ | refine u_q ?_ | refine u_lr ?_ | refine u_qr ?_ | refine u_ls ?_ | refine u_qs ?_ | refine u_t ?_ | refine u_f ?_ | refine v_s ?_ | refine v_o ?_ | refine v_on ?_ | refine v_og ?_ | refine v_q ?_ | refine v_sr ?_ | refine v_k ?_ | refine m_nil ?_)
      (refine awp_ret ?_; (repeat (first | refine then_r ?_ | refine block_r ?_ | refine loop_r ?_)); apply ret_ok (.inr rfl); (focus exact rfl))
      simp only [szLitF, if_neg hc, if_neg hd]

theorem laws_toAutomaton {s : Int} {nx : List (List Int)} (h1 : nx.length ≤ 1048576) (h2 : ∀ ns ∈ nx, ns.length ≤ 1048576) : AC Try.prog 48 [.agg [.int .i64 s, rows nx]] (.agg [.int .i64 s, rows nx]) := by
  refine ac_introC tabIs _ Try.func48 rfl rfl Try.ntmps48 rfl rfl fun w0 ok0 => ?_
  repeat' (first | refine awp_seq ?_ | refine then_n ?_ | refine then_r ?_ | refine then_x ?_ | refine block_n ?_ | refine block_r ?_ | refine block_x ?_ | refine u_y ?_ | refine loop_r ?_ | refine loop_x ?_ | refine awp_region ?_ | refine awpL_nil ?_ | refine awpQL_nil ?_ | refine awp_block ?_ | refine awp_skip ?_ | refine awp_exit ?_ | refine awp_label ?_ | refine u_dT ?_ | refine u_d ?_ | ((first | apply c_l | apply c_q | apply c_lr | apply c_qr); (iterate 2 exact rfl); (focus (first | (apply laws_toInt64SS; (iterate 2 (focus (first | assumption | omega | (simp; omega) | (simp; done) | rfl)))))); (iterate 2 exact rfl)) | (apply v_c; (iterate 4 exact rfl); (focus (first | (apply laws_toInt64SS; (iterate 2 (focus (first | assumption | omega | (simp; omega) | (simp; done) | rfl)))))); (iterate 2 exact rfl)) | refine u_l ?_ | refine u_o ?_ | refine u_q ?_ | refine u_lr ?_ | refine u_qr ?_ | refine u_ls ?_ | refine u_qs ?_ | refine u_t ?_ | refine u_f ?_ | refine v_s ?_ | refine v_o ?_ | refine v_on ?_ | refine v_og ?_ | refine v_q ?_ | refine v_sr ?_ | refine v_k ?_ | refine m_nil ?_ | ((first | refine u_sl ?_ ?_ | refine u_sq ?_ ?_) <;> (intro hb; try (simp at hb; done))) | (refine u_c ?_ ?_ <;> (intro hc; try (simp at hc; done))) | refine awp_ret ?_ | refine u_r ?_ | refine u_rC ?_)
  rfl

theorem laws_toLit {s : Int} {nx : List (List Int)} {lp : List Int} (h1 : nx.length ≤ 1048576) (h2 : ∀ ns ∈ nx, ns.length ≤ 1048576) (h3 : lp.length ≤ 1048576) : AC Try.prog 12 [.agg [.int .i64 s, rows nx, ints lp]] (.agg [.int .i64 s, rows nx, ints lp]) := by
  refine ac_introC tabIs _ Try.func12 rfl rfl Try.ntmps12 rfl rfl fun w0 ok0 => ?_
  repeat' (first | refine awp_seq ?_ | refine then_n ?_ | refine then_r ?_ | refine then_x ?_ | refine block_n ?_ | refine block_r ?_ | refine block_x ?_ | refine u_y ?_ | refine loop_r ?_ | refine loop_x ?_ | refine awp_region ?_ | refine awpL_nil ?_ | refine awpQL_nil ?_ | refine awp_block ?_ | refine awp_skip ?_ | refine awp_exit ?_ | refine awp_label ?_ | refine u_dT ?_ | refine u_d ?_ | ((first | apply c_l | apply c_q | apply c_lr | apply c_qr); (iterate 2 exact rfl); (focus (first | (apply laws_toAutomaton; (iterate 2 (focus (first | assumption | omega | (simp; omega) | (simp; done) | rfl)))) | (apply laws_toInt64S; (iterate 1 (focus (first | assumption | omega | (simp; omega) | (simp; done) | rfl)))))); (iterate 2 exact rfl)) | (apply v_c; (iterate 4 exact rfl); (focus (first | (apply laws_toAutomaton; (iterate 2 (focus (first | assumption | omega | (simp; omega) | (simp; done) | rfl)))) | (apply laws_toInt64S; (iterate 1 (focus (first | assumption | omega | (simp; omega) | (simp; done) | rfl)))))); (iterate 2 exact rfl)) | refine u_l ?_ | refine u_o ?_ | refine u_q ?_ | refine u_lr ?_ | refine u_qr ?_ | refine u_ls ?_ | refine u_qs ?_ | refine u_t ?_ | refine u_f ?_ | refine v_s ?_ | refine v_o ?_ | refine v_on ?_ | refine v_og ?_ | refine v_q ?_ | refine v_sr ?_ | refine v_k ?_ | refine m_nil ?_ | ((first | refine u_sl ?_ ?_ | refine u_sq ?_ ?_) <;> (intro hb; try (simp at hb; done))) | (refine u_c ?_ ?_ <;> (intro hc; try (simp at hc; done))) | refine awp_ret ?_ | refine u_r ?_ | refine u_rC ?_)
  rfl

theorem laws_eqAutomaton {s s' : Int} {nx nx' : List (List Int)} (h1 : RowsOk nx) (h2 : RowsOk nx') : AC Try.prog 52 [.agg [.int .i64 s, rows nx], .agg [.int .i64 s', rows nx']] (.bool (decide (s = s') && decide (nx = nx'))) := by
  refine ac_intro tabIs _ Try.func52 rfl rfl Try.ntmps52 rfl rfl fun w0 ok0 => ?_
  repeat' (first | refine awp_seq ?_ | refine then_n ?_ | refine then_r ?_ | refine then_x ?_ | refine block_n ?_ | refine block_r ?_ | refine block_x ?_ | refine u_y ?_ | refine loop_r ?_ | refine loop_x ?_ | refine awp_region ?_ | refine awpL_nil ?_ | refine awpQL_nil ?_ | refine awp_block ?_ | refine awp_skip ?_ | refine awp_exit ?_ | refine awp_label ?_ | refine u_dT ?_ | refine u_d ?_ | ((first | apply c_l | apply c_q | apply c_lr | apply c_qr); (iterate 2 exact rfl); (focus (first | (apply laws_eqInt64SS; (iterate 2 (focus (first | assumption | omega | (simp; omega) | (simp; done) | rfl)))))); (iterate 2 exact rfl)) | (apply v_c; (iterate 4 exact rfl); (focus (first | (apply laws_eqInt64SS; (iterate 2 (focus (first | assumption | omega | (simp; omega) | (simp; done) | rfl)))))); (iterate 2 exact rfl)) | refine u_l ?_ | refine u_o ?_ | refine u_q ?_ | refine u_lr ?_ | refine u_qr ?_ | refine u_ls ?_ | refine u_qs ?_ | refine u_t ?_ | refine u_f ?_ | refine v_s ?_ | refine v_o ?_ | refine v_on ?_ | refine v_og ?_ | refine v_q ?_ | refine v_sr ?_ | refine v_k ?_ | refine m_nil ?_ | ((first | refine u_sl ?_ ?_ | refine u_sq ?_ ?_) <;> (intro hb; try (simp at hb; done))) | (refine u_c ?_ ?_ <;> (intro hc; try (simp at hc; done))) | refine awp_ret ?_ | refine u_r ?_ | refine u_rC ?_)
  all_goals simp_all

theorem laws_eqLit {s s' : Int} {nx nx' : List (List Int)} {lp lp' : List Int} (h1 : RowsOk nx) (h2 : RowsOk nx') (h3 : lp.length ≤ 9223372036854775807) (h4 : lp'.length ≤ 9223372036854775807) :
    AC Try.prog 15 [.agg [.int .i64 s, rows nx, ints lp], .agg [.int .i64 s', rows nx', ints lp']] (.bool ((decide (s = s') && decide (nx = nx')) && decide (lp = lp'))) := by
  refine ac_intro tabIs _ Try.func15 rfl rfl Try.ntmps15 rfl rfl fun w0 ok0 => ?_
  repeat' (first | refine awp_seq ?_ | refine then_n ?_ | refine then_r ?_ | refine then_x ?_ | refine block_n ?_ | refine block_r ?_ | refine block_x ?_ | refine u_y ?_ | refine loop_r ?_ | refine loop_x ?_ | refine awp_region ?_ | refine awpL_nil ?_ | refine awpQL_nil ?_ | refine awp_block ?_ | refine awp_skip ?_ | refine awp_exit ?_ | refine awp_label ?_ | refine u_dT ?_ | refine u_d ?_ | ((first | apply c_l | apply c_q | apply c_lr | apply c_qr); (iterate 2 exact rfl); (focus (first | (apply laws_eqAutomaton; (iterate 2 (focus (first | assumption | omega | (simp; omega) | (simp; done) | rfl)))) | (apply laws_eqInt64S; (iterate 2 (focus (first | assumption | omega | (simp; omega) | (simp; done) | rfl)))))); (iterate 2 exact rfl)) | (apply v_c; (iterate 4 exact rfl); (focus (first | (apply laws_eqAutomaton; (iterate 2 (focus (first | assumption | omega | (simp; omega) | (simp; done) | rfl)))) | (apply laws_eqInt64S; (iterate 2 (focus (first | assumption | omega | (simp; omega) | (simp; done) | rfl)))))); (iterate 2 exact rfl)) | refine u_l ?_ | refine u_o ?_ | refine u_q ?_ | refine u_lr ?_ | refine u_qr ?_ | refine u_ls ?_ | refine u_qs ?_ | refine u_t ?_ | refine u_f ?_ | refine v_s ?_ | refine v_o ?_ | refine v_on ?_ | refine v_og ?_ | refine v_q ?_ | refine v_sr ?_ | refine v_k ?_ | refine m_nil ?_ | ((first | refine u_sl ?_ ?_ | refine u_sq ?_ ?_) <;> (intro hb; try (simp at hb; done))) | (refine u_c ?_ ?_ <;> (intro hc; try (simp at hc; done))) | refine awp_ret ?_ | refine u_r ?_ | refine u_rC ?_)
  all_goals (simp_all; try (intro e1 e2; rcases hc with hc | hc <;> contradiction))

theorem szLitF_ok {nx : List (List Int)} {lp : List Int} (h : ¬ szLitF nx lp 1048576 < 0) : nx.length ≤ 1048576 ∧ (∀ ns ∈ nx, ns.length ≤ 1048576) ∧ lp.length ≤ 1048576 := by
  have hok := szA_ok (nx := nx) (left := 1048576) (by omega)
  unfold szLitF at h
  split at h
  · omega
  · split at h
    · omega
    · rename_i g1 g2
      have hl := (szL_le (n := lp.length) (left := szA nx 1048576) (by omega)).2 (by omega)
      obtain ⟨k1, k2, k3⟩ := hok
      obtain ⟨k4, k5⟩ := k3 (by omega)
      refine ⟨by omega, fun ns hn => ?_, by omega⟩
      have := k5 ns hn
      omega

end Go.Proofs.Ytkomkhigcdkpdaa
