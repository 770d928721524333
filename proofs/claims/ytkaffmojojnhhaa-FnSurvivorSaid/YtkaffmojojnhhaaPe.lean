/- Contracts of FirstFailing and Passes, in the program and in the reference. No condition. -/
import Derived.Test.YtkaffmojojnhhaaPc
import Derived.Test.YtkaffmojojnhhaaKf
import Derived.Test.YtkaffmojojnhhaaNh
import Derived.Test.YtkaffmojojnhhaaCa
import Derived.Test.YtkaffmojojnhhaaFwY
namespace Go.Proofs.Ytkaffmojojnhhaa
open Go
attribute [local irreducible] awp awpL awpQL awpQ awpM pWalk Qt AC thenQ blockQ loopQ OpTo
set_option linter.unusedVariables false
set_option linter.unusedSimpArgs false
set_option maxHeartbeats 2000000

/-- The code of two machines and a suite. -/
def twoC (s o s' o' : Int) (nx ou nx' ou' ws : List (List Int)) : Int := if machOk s o nx ou && machOk s' o' nx' ou' then (if decide (o = o') && (decide ((nx.length : Int) = nx'.length) && suiteOk nx.length ws) then 0 else 2) else 1

theorem twoC_facts {s o s' o' : Int} {nx ou nx' ou' ws : List (List Int)} (h : twoC s o s' o' nx ou nx' ou' ws = 0) : MV s o nx ou ∧ MV s' o' nx' ou' ∧ o = o' ∧ nx'.length = nx.length ∧ ws.length ≤ 400 ∧ ∀ w ∈ ws, w.length ≤ 400 ∧ ∀ l ∈ w, 0 ≤ l ∧ l < nx.length := by
  unfold twoC at h
  split at h
  · rename_i h1
    split at h
    · rename_i h2
      simp only [Bool.and_eq_true, decide_eq_true_eq] at h1 h2
      obtain ⟨k1, k2⟩ := suite_of h2.2.2
      exact ⟨mv_of h1.1, mv_of h1.2, h2.1, by omega, k1, k2⟩
    · omega
  · omega

/-- What FirstFailing answers. -/
def ffD (s o s' o' : Int) (nx ou nx' ou' ws : List (List Int)) : Int × Int × Int :=
  if twoC s o s' o' nx ou nx' ou' ws = 0 then (if (failS nx ou nx' ou' 0 ws).1 < 0 then (0, 0, 6) else ((failS nx ou nx' ou' 0 ws).1, (failS nx ou nx' ou' 0 ws).2, 0)) else (0, 0, twoC s o s' o' nx ou nx' ou' ws)

theorem impl_FirstFailing {s o s' o' : Int} {nx ou nx' ou' ws : List (List Int)} (h1 : RowsOk nx) (h2 : RowsOk ou) (h3 : RowsOk nx') (h4 : RowsOk ou') (h5 : RowsOk ws) :
    AC Try.prog 77 [mach s o nx ou, mach s' o' nx' ou', rows ws] (.tup [.int .i64 (ffD s o s' o' nx ou nx' ou' ws).1, .int .i64 (ffD s o s' o' nx ou nx' ou' ws).2.1, .int .i64 (ffD s o s' o' nx ou nx' ou' ws).2.2]) := by
  have e1 := impl_ValidMachine (s := s) (o := o) h1 h2
  have e2 := impl_ValidMachine (s := s') (o := o') h3 h4
  have e3 := impl_isSuite (s := s) (o := o) (ou := ou) h1.2 h5
  have e4 := impl_alike (s := s) (o := o) (s' := s') (o' := o') (nx := nx) (ou := ou) (nx' := nx') (ou' := ou')
  unfold ffD
  by_cases hc : twoC s o s' o' nx ou nx' ou' ws = 0
  · obtain ⟨m, n, ho, he, hws, hw⟩ := twoC_facts hc
    have e5 := impl_failing m n he hws hw
    rw [if_pos hc]
    have hm : machOk s o nx ou = true ∧ machOk s' o' nx' ou' = true ∧ decide (o = o') = true ∧ decide ((nx.length : Int) = nx'.length) = true ∧ suiteOk nx.length ws = true := by
      unfold twoC at hc
      split at hc
      · rename_i g1
        split at hc
        · rename_i g2
          simp only [Bool.and_eq_true] at g1 g2
          exact ⟨g1.1, g1.2, g2.1, g2.2.1, g2.2.2⟩
        · omega
      · omega
    obtain ⟨g1, g2, g3, g4, g5⟩ := hm
    rw [g1] at e1
    rw [g2] at e2
    rw [g5] at e3
    rw [g3, g4] at e4
    by_cases hd : (failS nx ou nx' ou' 0 ws).1 < 0
    · rw [if_pos hd]
      unfold mach at *
      refine ac_intro tabIs _ Try.func77 rfl rfl Try.ntmps77 rfl rfl fun w0 ok0 => ?_
      repeat (first | refine awp_seq ?_ | refine then_n ?_ | refine then_r ?_ | refine then_x ?_ | refine block_n ?_ | refine block_r ?_ | refine block_x ?_ | refine u_y ?_ | refine loop_r ?_ | refine loop_x ?_ | refine awp_region ?_ | refine awpL_nil ?_ | refine awpQL_nil ?_ | refine awp_block ?_ | refine awp_skip ?_ | refine awp_exit ?_ | refine awp_label ?_ | refine u_dT ?_ | refine u_d ?_ | ((first | apply c_l | apply c_q | apply c_lr | apply c_qr); (iterate 2 exact rfl); (focus (first | exact e1 | exact e2 | exact e3 | exact e4 | exact e5)); (iterate 2 exact rfl)) | (apply v_c; (iterate 4 exact rfl); (focus (first | exact e1 | exact e2 | exact e3 | exact e4 | exact e5)); (iterate 2 exact rfl)) | refine u_l ?_ | refine u_o ?_ | refine u_q ?_ | refine u_lr ?_ | refine u_qr ?_ | refine u_ls ?_ | refine u_qs ?_ | refine u_t ?_ | refine u_f ?_ | refine v_s ?_ | refine v_o ?_ | refine v_on ?_ | refine v_og ?_ | refine v_q ?_ | refine v_sr ?_ | refine v_k ?_ | refine m_nil ?_)
      (refine awp_ret ?_; (repeat (first | refine then_r ?_ | refine block_r ?_ | refine loop_r ?_)); apply ret_ok (.inr rfl); (focus exact rfl))
      rfl
    · rw [if_neg hd]
      unfold mach at *
      refine ac_intro tabIs _ Try.func77 rfl rfl Try.ntmps77 rfl rfl fun w0 ok0 => ?_
      repeat (first | refine awp_seq ?_ | refine then_n ?_ | refine then_r ?_ | refine then_x ?_ | refine block_n ?_ | refine block_r ?_ | refine block_x ?_ | refine u_y ?_ | refine loop_r ?_ | refine loop_x ?_ | refine awp_region ?_ | refine awpL_nil ?_ | refine awpQL_nil ?_ | refine awp_block ?_ | refine awp_skip ?_ | refine awp_exit ?_ | refine awp_label ?_ | refine u_dT ?_ | refine u_d ?_ | ((first | apply c_l | apply c_q | apply c_lr | apply c_qr); (iterate 2 exact rfl); (focus (first | exact e1 | exact e2 | exact e3 | exact e4 | exact e5)); (iterate 2 exact rfl)) | (apply v_c; (iterate 4 exact rfl); (focus (first | exact e1 | exact e2 | exact e3 | exact e4 | exact e5)); (iterate 2 exact rfl)) | refine u_l ?_ | refine u_o ?_ | refine u_q ?_ | refine u_lr ?_ | refine u_qr ?_ | refine u_ls ?_ | refine u_qs ?_ | refine u_t ?_ | refine u_f ?_ | refine v_s ?_ | refine v_o ?_ | refine v_on ?_ | refine v_og ?_ | refine v_q ?_ | refine v_sr ?_ | refine v_k ?_ | refine m_nil ?_)
      (refine awp_ret ?_; (repeat (first | refine then_r ?_ | refine block_r ?_ | refine loop_r ?_)); apply ret_ok (.inr rfl); (focus exact rfl))
      rfl
  · rw [if_neg hc]
    unfold twoC at *
    cases g1 : machOk s o nx ou
    · rw [g1] at e1
      unfold mach at *
      refine ac_intro tabIs _ Try.func77 rfl rfl Try.ntmps77 rfl rfl fun w0 ok0 => ?_
      repeat (first | refine awp_seq ?_ | refine then_n ?_ | refine then_r ?_ | refine then_x ?_ | refine block_n ?_ | refine block_r ?_ | refine block_x ?_ | refine u_y ?_ | refine loop_r ?_ | refine loop_x ?_ | refine awp_region ?_ | refine awpL_nil ?_ | refine awpQL_nil ?_ | refine awp_block ?_ | refine awp_skip ?_ | refine awp_exit ?_ | refine awp_label ?_ | refine u_dT ?_ | refine u_d ?_ | ((first | apply c_l | apply c_q | apply c_lr | apply c_qr); (iterate 2 exact rfl); (focus (first | exact e1)); (iterate 2 exact rfl)) | (apply v_c; (iterate 4 exact rfl); (focus (first | exact e1)); (iterate 2 exact rfl)) | refine u_l ?_ | refine u_o ?_ | refine u_q ?_ | refine u_lr ?_ | refine u_qr ?_ | refine u_ls ?_ | refine u_qs ?_ | refine u_t ?_ | refine u_f ?_ | refine v_s ?_ | refine v_o ?_ | refine v_on ?_ | refine v_og ?_ | refine v_q ?_ | refine v_sr ?_ | refine v_k ?_ | refine m_nil ?_)
      (refine awp_ret ?_; (repeat (first | refine then_r ?_ | refine block_r ?_ | refine loop_r ?_)); apply ret_ok (.inr rfl); (focus exact rfl))
      simp
    · rw [g1] at e1
      cases g2 : machOk s' o' nx' ou'
      · rw [g2] at e2
        unfold mach at *
        refine ac_intro tabIs _ Try.func77 rfl rfl Try.ntmps77 rfl rfl fun w0 ok0 => ?_
        repeat (first | refine awp_seq ?_ | refine then_n ?_ | refine then_r ?_ | refine then_x ?_ | refine block_n ?_ | refine block_r ?_ | refine block_x ?_ | refine u_y ?_ | refine loop_r ?_ | refine loop_x ?_ | refine awp_region ?_ | refine awpL_nil ?_ | refine awpQL_nil ?_ | refine awp_block ?_ | refine awp_skip ?_ | refine awp_exit ?_ | refine awp_label ?_ | refine u_dT ?_ | refine u_d ?_ | ((first | apply c_l | apply c_q | apply c_lr | apply c_qr); (iterate 2 exact rfl); (focus (first | exact e1 | exact e2)); (iterate 2 exact rfl)) | (apply v_c; (iterate 4 exact rfl); (focus (first | exact e1 | exact e2)); (iterate 2 exact rfl)) | refine u_l ?_ | refine u_o ?_ | refine u_q ?_ | refine u_lr ?_ | refine u_qr ?_ | refine u_ls ?_ | refine u_qs ?_ | refine u_t ?_ | refine u_f ?_ | refine v_s ?_ | refine v_o ?_ | refine v_on ?_ | refine v_og ?_ | refine v_q ?_ | refine v_sr ?_ | refine v_k ?_ | refine m_nil ?_)
        (refine awp_ret ?_; (repeat (first | refine then_r ?_ | refine block_r ?_ | refine loop_r ?_)); apply ret_ok (.inr rfl); (focus exact rfl))
        simp
      · rw [g2] at e2
        cases g4 : (decide (o = o') && decide ((nx.length : Int) = nx'.length))
        · rw [g4] at e4
          unfold mach at *
          refine ac_intro tabIs _ Try.func77 rfl rfl Try.ntmps77 rfl rfl fun w0 ok0 => ?_
          repeat (first | refine awp_seq ?_ | refine then_n ?_ | refine then_r ?_ | refine then_x ?_ | refine block_n ?_ | refine block_r ?_ | refine block_x ?_ | refine u_y ?_ | refine loop_r ?_ | refine loop_x ?_ | refine awp_region ?_ | refine awpL_nil ?_ | refine awpQL_nil ?_ | refine awp_block ?_ | refine awp_skip ?_ | refine awp_exit ?_ | refine awp_label ?_ | refine u_dT ?_ | refine u_d ?_ | ((first | apply c_l | apply c_q | apply c_lr | apply c_qr); (iterate 2 exact rfl); (focus (first | exact e1 | exact e2 | exact e4)); (iterate 2 exact rfl)) | (apply v_c; (iterate 4 exact rfl); (focus (first | exact e1 | exact e2 | exact e4)); (iterate 2 exact rfl)) | refine u_l ?_ | refine u_o ?_ | refine u_q ?_ | refine u_lr ?_ | refine u_qr ?_ | refine u_ls ?_ | refine u_qs ?_ | refine u_t ?_ | refine u_f ?_ | refine v_s ?_ | refine v_o ?_ | refine v_on ?_ | refine v_og ?_ | refine v_q ?_ | refine v_sr ?_ | refine v_k ?_ | refine m_nil ?_)
          (refine awp_ret ?_; (repeat (first | refine then_r ?_ | refine block_r ?_ | refine loop_r ?_)); apply ret_ok (.inr rfl); (focus exact rfl))
          rw [← Bool.and_assoc, g4]
          simp
        · rw [g4] at e4
          cases g5 : suiteOk nx.length ws
          · rw [g5] at e3
            unfold mach at *
            refine ac_intro tabIs _ Try.func77 rfl rfl Try.ntmps77 rfl rfl fun w0 ok0 => ?_
            repeat (first | refine awp_seq ?_ | refine then_n ?_ | refine then_r ?_ | refine then_x ?_ | refine block_n ?_ | refine block_r ?_ | refine block_x ?_ | refine u_y ?_ | refine loop_r ?_ | refine loop_x ?_ | refine awp_region ?_ | refine awpL_nil ?_ | refine awpQL_nil ?_ | refine awp_block ?_ | refine awp_skip ?_ | refine awp_exit ?_ | refine awp_label ?_ | refine u_dT ?_ | refine u_d ?_ | ((first | apply c_l | apply c_q | apply c_lr | apply c_qr); (iterate 2 exact rfl); (focus (first | exact e1 | exact e2 | exact e3 | exact e4)); (iterate 2 exact rfl)) | (apply v_c; (iterate 4 exact rfl); (focus (first | exact e1 | exact e2 | exact e3 | exact e4)); (iterate 2 exact rfl)) | refine u_l ?_ | refine u_o ?_ | refine u_q ?_ | refine u_lr ?_ | refine u_qr ?_ | refine u_ls ?_ | refine u_qs ?_ | refine u_t ?_ | refine u_f ?_ | refine v_s ?_ | refine v_o ?_ | refine v_on ?_ | refine v_og ?_ | refine v_q ?_ | refine v_sr ?_ | refine v_k ?_ | refine m_nil ?_)
            (refine awp_ret ?_; (repeat (first | refine then_r ?_ | refine block_r ?_ | refine loop_r ?_)); apply ret_ok (.inr rfl); (focus exact rfl))
            simp
          · rw [g1, g2, ← Bool.and_assoc, g4, g5] at hc
            simp at hc

end Go.Proofs.Ytkaffmojojnhhaa

/-! Contracts of Passes; the laws of FirstFailing and of Passes. No condition. -/
namespace Go.Proofs.Ytkaffmojojnhhaa
open Go
attribute [local irreducible] awp awpL awpQL awpQ awpM pWalk Qt AC thenQ blockQ loopQ OpTo
set_option linter.unusedVariables false
set_option linter.unusedSimpArgs false
set_option maxHeartbeats 2000000

theorem twoC_range (s o s' o' : Int) (nx ou nx' ou' ws : List (List Int)) : twoC s o s' o' nx ou nx' ou' ws = 0 ∨ twoC s o s' o' nx ou nx' ou' ws = 1 ∨ twoC s o s' o' nx ou nx' ou' ws = 2 := by
  unfold twoC
  split
  · split
    · exact .inl rfl
    · exact .inr (.inr rfl)
  · exact .inr (.inl rfl)

/-- What Passes answers. -/
def psD (s o s' o' : Int) (nx ou nx' ou' ws : List (List Int)) : Bool × Int :=
  if twoC s o s' o' nx ou nx' ou' ws = 0 then (decide ((failS nx ou nx' ou' 0 ws).1 < 0), 0) else (false, twoC s o s' o' nx ou nx' ou' ws)

theorem impl_Passes {s o s' o' : Int} {nx ou nx' ou' ws : List (List Int)} (h1 : RowsOk nx) (h2 : RowsOk ou) (h3 : RowsOk nx') (h4 : RowsOk ou') (h5 : RowsOk ws) :
    AC Try.prog 30 [mach s o nx ou, mach s' o' nx' ou', rows ws] (.tup [.bool (psD s o s' o' nx ou nx' ou' ws).1, .int .i64 (psD s o s' o' nx ou nx' ou' ws).2]) := by
  have e1 := impl_FirstFailing (s := s) (o := o) (s' := s') (o' := o') h1 h2 h3 h4 h5
  unfold psD
  unfold ffD at e1
  by_cases hc : twoC s o s' o' nx ou nx' ou' ws = 0
  · rw [if_pos hc] at e1 ⊢
    by_cases hd : (failS nx ou nx' ou' 0 ws).1 < 0
    · rw [if_pos hd] at e1
      unfold mach at *
      refine ac_intro tabIs _ Try.func30 rfl rfl Try.ntmps30 rfl rfl fun w0 ok0 => ?_
      repeat (first | refine awp_seq ?_ | refine then_n ?_ | refine then_r ?_ | refine then_x ?_ | refine block_n ?_ | refine block_r ?_ | refine block_x ?_ | refine u_y ?_ | refine loop_r ?_ | refine loop_x ?_ | refine awp_region ?_ | refine awpL_nil ?_ | refine awpQL_nil ?_ | refine awp_block ?_ | refine awp_skip ?_ | refine awp_exit ?_ | refine awp_label ?_ | refine u_dT ?_ | refine u_d ?_ | ((first | apply c_l | apply c_q | apply c_lr | apply c_qr); (iterate 2 exact rfl); (focus (first | exact e1)); (iterate 2 exact rfl)) | (apply v_c; (iterate 4 exact rfl); (focus (first | exact e1)); (iterate 2 exact rfl)) | refine u_l ?_ | refine u_o ?_ | refine u_q ?_ | refine u_lr ?_ | refine u_qr ?_ | refine u_ls ?_ | refine u_qs ?_ | refine u_t ?_ | refine u_f ?_ | refine v_s ?_ | refine v_o ?_ | refine v_on ?_ | refine v_og ?_ | refine v_q ?_ | refine v_sr ?_ | refine v_k ?_ | refine m_nil ?_)
      (refine awp_ret ?_; (repeat (first | refine then_r ?_ | refine block_r ?_ | refine loop_r ?_)); apply ret_ok (.inr rfl); (focus exact rfl))
      simp [hd]
    · rw [if_neg hd] at e1
      unfold mach at *
      refine ac_intro tabIs _ Try.func30 rfl rfl Try.ntmps30 rfl rfl fun w0 ok0 => ?_
      repeat (first | refine awp_seq ?_ | refine then_n ?_ | refine then_r ?_ | refine then_x ?_ | refine block_n ?_ | refine block_r ?_ | refine block_x ?_ | refine u_y ?_ | refine loop_r ?_ | refine loop_x ?_ | refine awp_region ?_ | refine awpL_nil ?_ | refine awpQL_nil ?_ | refine awp_block ?_ | refine awp_skip ?_ | refine awp_exit ?_ | refine awp_label ?_ | refine u_dT ?_ | refine u_d ?_ | ((first | apply c_l | apply c_q | apply c_lr | apply c_qr); (iterate 2 exact rfl); (focus (first | exact e1)); (iterate 2 exact rfl)) | (apply v_c; (iterate 4 exact rfl); (focus (first | exact e1)); (iterate 2 exact rfl)) | refine u_l ?_ | refine u_o ?_ | refine u_q ?_ | refine u_lr ?_ | refine u_qr ?_ | refine u_ls ?_ | refine u_qs ?_ | refine u_t ?_ | refine u_f ?_ | refine v_s ?_ | refine v_o ?_ | refine v_on ?_ | refine v_og ?_ | refine v_q ?_ | refine v_sr ?_ | refine v_k ?_ | refine m_nil ?_)
      (refine awp_ret ?_; (repeat (first | refine then_r ?_ | refine block_r ?_ | refine loop_r ?_)); apply ret_ok (.inr rfl); (focus exact rfl))
      simp [hd]
  · rw [if_neg hc] at e1 ⊢
    rcases twoC_range s o s' o' nx ou nx' ou' ws with g | g | g
    · exact absurd g hc
    · rw [g] at e1 ⊢
      unfold mach at *
      refine ac_intro tabIs _ Try.func30 rfl rfl Try.ntmps30 rfl rfl fun w0 ok0 => ?_
      repeat (first | refine awp_seq ?_ | refine then_n ?_ | refine then_r ?_ | refine then_x ?_ | refine block_n ?_ | refine block_r ?_ | refine block_x ?_ | refine u_y ?_ | refine loop_r ?_ | refine loop_x ?_ | refine awp_region ?_ | refine awpL_nil ?_ | refine awpQL_nil ?_ | refine awp_block ?_ | refine awp_skip ?_ | refine awp_exit ?_ | refine awp_label ?_ | refine u_dT ?_ | refine u_d ?_ | ((first | apply c_l | apply c_q | apply c_lr | apply c_qr); (iterate 2 exact rfl); (focus (first | exact e1)); (iterate 2 exact rfl)) | (apply v_c; (iterate 4 exact rfl); (focus (first | exact e1)); (iterate 2 exact rfl)) | refine u_l ?_ | refine u_o ?_ | refine u_q ?_ | refine u_lr ?_ | refine u_qr ?_ | refine u_ls ?_ | refine u_qs ?_ | refine u_t ?_ | refine u_f ?_ | refine v_s ?_ | refine v_o ?_ | refine v_on ?_ | refine v_og ?_ | refine v_q ?_ | refine v_sr ?_ | refine v_k ?_ | refine m_nil ?_)
      (refine awp_ret ?_; (repeat (first | refine then_r ?_ | refine block_r ?_ | refine loop_r ?_)); apply ret_ok (.inr rfl); (focus exact rfl))
      rfl
    · rw [g] at e1 ⊢
      unfold mach at *
      refine ac_intro tabIs _ Try.func30 rfl rfl Try.ntmps30 rfl rfl fun w0 ok0 => ?_
      repeat (first | refine awp_seq ?_ | refine then_n ?_ | refine then_r ?_ | refine then_x ?_ | refine block_n ?_ | refine block_r ?_ | refine block_x ?_ | refine u_y ?_ | refine loop_r ?_ | refine loop_x ?_ | refine awp_region ?_ | refine awpL_nil ?_ | refine awpQL_nil ?_ | refine awp_block ?_ | refine awp_skip ?_ | refine awp_exit ?_ | refine awp_label ?_ | refine u_dT ?_ | refine u_d ?_ | ((first | apply c_l | apply c_q | apply c_lr | apply c_qr); (iterate 2 exact rfl); (focus (first | exact e1)); (iterate 2 exact rfl)) | (apply v_c; (iterate 4 exact rfl); (focus (first | exact e1)); (iterate 2 exact rfl)) | refine u_l ?_ | refine u_o ?_ | refine u_q ?_ | refine u_lr ?_ | refine u_qr ?_ | refine u_ls ?_ | refine u_qs ?_ | refine u_t ?_ | refine u_f ?_ | refine v_s ?_ | refine v_o ?_ | refine v_on ?_ | refine v_og ?_ | refine v_q ?_ | refine v_sr ?_ | refine v_k ?_ | refine m_nil ?_)
      (refine awp_ret ?_; (repeat (first | refine then_r ?_ | refine block_r ?_ | refine loop_r ?_)); apply ret_ok (.inr rfl); (focus exact rfl))
      rfl

end Go.Proofs.Ytkaffmojojnhhaa

/-! What is asked of a valid machine and a valid suite. No condition. -/
namespace Go.Proofs.Ytkaffmojojnhhaa
open Go
attribute [local irreducible] awp awpL awpQL awpQ awpM pWalk Qt AC thenQ blockQ loopQ OpTo
set_option linter.unusedVariables false
set_option linter.unusedSimpArgs false
set_option maxHeartbeats 2000000
attribute [local irreducible] HC

theorem SuOk.rows {n : Nat} {ws : List (List Int)} (h : SuOk n ws) (hn : n ≤ 1000) : RowsOk ws :=
  ⟨fun w hw => ⟨fun l hl => by have := (h.all w hw).2 l hl; exact ⟨by omega, by omega⟩, by have := (h.all w hw).1; omega⟩, by have := h.len; omega⟩


theorem elsOk_rows : ∀ nss : List (List Int), elsOk 1 (nss.map ints) = true
  | [] => rfl
  | ns :: nss => by simp [elsOk, D.el, D.one, D.width, ints, elsOk_rows nss]

section
variable {s o k : Int} {nx ou ws os : List (List Int)}
theorem psD_v {s' : Int} {nx' ou' : List (List Int)} (m : MV s o nx ou) (m' : MV s' o nx' ou') (hn : nx'.length = nx.length) (h : SuOk nx.length ws) : psD s o s' o nx ou nx' ou' ws = (decide ((failS nx ou nx' ou' 0 ws).1 < 0), 0) := by
  have : twoC s o s' o nx ou nx' ou' ws = 0 := by
    unfold twoC
    rw [if_pos (by rw [machOk_mv m, machOk_mv m']; rfl), if_pos (by rw [suiteOk_su h, hn]; simp)]
  unfold psD
  rw [if_pos this]

theorem impl_PassesV {s' : Int} {nx' ou' : List (List Int)} (m : MV s o nx ou) (m' : MV s' o nx' ou') (hn : nx'.length = nx.length) (h : SuOk nx.length ws) :
    AC Try.prog 30 [mach s o nx ou, mach s' o nx' ou', rows ws] (.tup [.bool (decide ((failS nx ou nx' ou' 0 ws).1 < 0)), .int .i64 0]) := by
  have := impl_Passes (s := s) (o := o) (s' := s') (o' := o) m.rnx m.rou m'.rnx m'.rou (h.rows (by have := m.n1; omega))
  rwa [psD_v m m' hn h] at this
end

theorem failW_same (nx ou nx' ou' : List (List Int)) : ∀ (w : List Int) (s t : Int) (k : Nat), failW nx ou nx' ou' s t k w < 0 ↔ runO nx ou s w = runO nx' ou' t w
  | [], s, t, k => by simp [failW, runO]
  | l :: w, s, t, k => by
    simp only [failW, runO, List.cons.injEq]
    split
    · rename_i h
      rw [failW_same nx ou nx' ou' w _ _ (k + 1)]
      simp [h]
    · rename_i h
      simp [h]
theorem failS_same (nx ou nx' ou' : List (List Int)) : ∀ (ws : List (List Int)) (i : Nat), (failS nx ou nx' ou' i ws).1 < 0 ↔ ws.map (runO nx ou 0) = ws.map (runO nx' ou' 0)
  | [], i => by simp [failS]
  | w :: ws, i => by
    have h := failW_same nx ou nx' ou' w 0 0 0
    simp only [failS, List.map_cons, List.cons.injEq]
    split
    · rename_i hc
      rw [failS_same nx ou nx' ou' ws (i + 1), ← h]
      simp [hc]
    · rename_i hc
      rw [← h]
      simp [hc]

end Go.Proofs.Ytkaffmojojnhhaa

/-! The reference's draw of a machine that is like another one. No condition. -/
namespace Go.Proofs.Ytkaffmojojnhhaa
open Go
attribute [local irreducible] awp awpL awpQL awpQ awpM pWalk Qt AC thenQ blockQ loopQ OpTo
set_option linter.unusedVariables false
set_option linter.unusedSimpArgs false
set_option maxHeartbeats 2000000
attribute [local irreducible] HC

section
variable {code : List Int} {S O s : Int} {r ro : List Int} {nx ou : List (List Int)} {u : Src}
end
/-! ### The walk -/
end Go.Proofs.Ytkaffmojojnhhaa

/-! The law of Failing. No condition. -/
namespace Go.Proofs.Ytkaffmojojnhhaa
open Go
attribute [local irreducible] awp awpL awpQL awpQ awpM pWalk Qt AC thenQ blockQ loopQ OpTo
set_option linter.unusedVariables false
set_option linter.unusedSimpArgs false
set_option maxHeartbeats 2000000
attribute [local irreducible] HC

section
variable {s o s' o' : Int} {nx ou nx' ou' : List (List Int)}
theorem impl_MachineDifferenceV (m : MV s o nx ou) (m' : MV s' o nx' ou') (he : nx'.length = nx.length) :
    AC Try.prog 31 [mach s o nx ou, mach s' o nx' ou'] (.tup [if (apR nx ou nx' ou').2 then ints (apR nx ou nx' ou').1 else .nils, .int .i64 (if (apR nx ou nx' ou').2 then 0 else 6)]) := by
  have e1 := impl_ValidMachine (s := s) (o := o) m.rnx m.rou
  have e2 := impl_ValidMachine (s := s') (o := o) m'.rnx m'.rou
  rw [machOk_mv m] at e1
  rw [machOk_mv m'] at e2
  have e3 := impl_alike (s := s) (o := o) (s' := s') (o' := o) (nx := nx) (ou := ou) (nx' := nx') (ou' := ou')
  rw [show (decide (o = o) && decide ((nx.length : Int) = nx'.length)) = true by simp [he]] at e3
  have e4 := impl_apartR m m' he
  cases hR : (apR nx ou nx' ou').2
  · rw [hR] at e4
    refine ac_intro tabIs _ Try.func31 rfl rfl Try.ntmps31 rfl rfl fun w0 ok0 => ?_
    repeat (first | refine awp_seq ?_ | refine then_n ?_ | refine then_r ?_ | refine then_x ?_ | refine block_n ?_ | refine block_r ?_ | refine block_x ?_ | refine u_y ?_ | refine loop_r ?_ | refine loop_x ?_ | refine awp_region ?_ | refine awpL_nil ?_ | refine awpQL_nil ?_ | refine awp_block ?_ | refine awp_skip ?_ | refine awp_exit ?_ | refine awp_label ?_ | refine u_dT ?_ | refine u_d ?_ | ((first | apply c_l | apply c_q | apply c_lr | apply c_qr); (iterate 2 exact rfl); (focus (first | exact e1 | exact e2 | exact e3 | exact e4)); (iterate 2 exact rfl)) | (apply v_c; (iterate 4 exact rfl); (focus (first | exact e1 | exact e2 | exact e3 | exact e4)); (iterate 2 exact rfl)) | refine u_l ?_ | refine u_o ?_ | refine u_q ?_ | refine u_lr ?_ | refine u_qr ?_ | refine u_ls ?_ | refine u_qs ?_ | refine u_t ?_ | refine u_f ?_ | refine v_s ?_ | refine v_o ?_ | refine v_on ?_ | refine v_og ?_ | refine v_q ?_ | refine v_sr ?_ | refine v_k ?_ | refine m_nil ?_)
    (refine awp_ret ?_; (repeat (first | refine then_r ?_ | refine block_r ?_ | refine loop_r ?_)); apply ret_ok (.inr rfl); (focus exact rfl))
    rfl
  · rw [hR] at e4
    refine ac_intro tabIs _ Try.func31 rfl rfl Try.ntmps31 rfl rfl fun w0 ok0 => ?_
    repeat (first | refine awp_seq ?_ | refine then_n ?_ | refine then_r ?_ | refine then_x ?_ | refine block_n ?_ | refine block_r ?_ | refine block_x ?_ | refine u_y ?_ | refine loop_r ?_ | refine loop_x ?_ | refine awp_region ?_ | refine awpL_nil ?_ | refine awpQL_nil ?_ | refine awp_block ?_ | refine awp_skip ?_ | refine awp_exit ?_ | refine awp_label ?_ | refine u_dT ?_ | refine u_d ?_ | ((first | apply c_l | apply c_q | apply c_lr | apply c_qr); (iterate 2 exact rfl); (focus (first | exact e1 | exact e2 | exact e3 | exact e4)); (iterate 2 exact rfl)) | (apply v_c; (iterate 4 exact rfl); (focus (first | exact e1 | exact e2 | exact e3 | exact e4)); (iterate 2 exact rfl)) | refine u_l ?_ | refine u_o ?_ | refine u_q ?_ | refine u_lr ?_ | refine u_qr ?_ | refine u_ls ?_ | refine u_qs ?_ | refine u_t ?_ | refine u_f ?_ | refine v_s ?_ | refine v_o ?_ | refine v_on ?_ | refine v_og ?_ | refine v_q ?_ | refine v_sr ?_ | refine v_k ?_ | refine m_nil ?_)
    (refine awp_ret ?_; (repeat (first | refine then_r ?_ | refine block_r ?_ | refine loop_r ?_)); apply ret_ok (.inr rfl); (focus exact rfl))
    rfl

end

/-! ### Where a machine fails -/
end Go.Proofs.Ytkaffmojojnhhaa
