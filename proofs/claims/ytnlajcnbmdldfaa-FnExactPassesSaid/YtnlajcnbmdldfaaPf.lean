/- Contracts of Passes; the laws of FirstFailing and of Passes. No condition. -/
import Derived.Test.YtnlajcnbmdldfaaPe
namespace Go.Proofs.Ytnlajcnbmdldfaa
open Go
attribute [local irreducible] awp awpL awpQL awpQ Qt AC thenQ blockQ loopQ OpTo
set_option linter.unusedVariables false
set_option linter.unusedSimpArgs false
set_option maxHeartbeats 2000000

theorem twoC_range (s o s' o' : Int) (nx ou nx' ou' ws : List (List Int)) : twoC s o s' o' nx ou nx' ou' ws = 0 ∨ twoC s o s' o' nx ou nx' ou' ws = 1 ∨ twoC s o s' o' nx ou nx' ou' ws = 2 := by
  unfold twoC
  split
  · split
    · exact .inl rfl
    · exact .inr (.inr rfl)
  · exact .inr (.inl rfl)

/-- What Passes answers. -/
def psD (s o s' o' : Int) (nx ou nx' ou' ws : List (List Int)) : Bool × Int :=
  if twoC s o s' o' nx ou nx' ou' ws = 0 then (decide ((failS nx ou nx' ou' 0 ws).1 < 0), 0) else (false, twoC s o s' o' nx ou nx' ou' ws)

theorem failR_neg (p : Int × Int) : decide ((failR p).1 < 0) = decide (p.1 < 0) := by
  unfold failR
  split
  · rename_i h; simp [h]
  · rfl

theorem spec_Passes {s o s' o' : Int} {nx ou nx' ou' ws : List (List Int)} (h1 : RowsOk nx) (h2 : RowsOk ou) (h3 : RowsOk nx') (h4 : RowsOk ou') (h5 : RowsOk ws) :
    AC Try.prog 22 [mach s o nx ou, mach s' o' nx' ou', rows ws] (.tup [.bool (psD s o s' o' nx ou nx' ou' ws).1, .int .i64 (psD s o s' o' nx ou nx' ou' ws).2]) := by
  have e1 := spec_l07Two (s := s) (o := o) (s' := s') (o' := o') h1 h2 h3 h4 h5
  unfold psD
  by_cases hc : twoC s o s' o' nx ou nx' ou' ws = 0
  · obtain ⟨m, n, _, he, hws, hw⟩ := twoC_facts hc
    have e2 := spec_l07Failing m n he hws hw
    rw [if_pos hc]
    rw [hc] at e1
    unfold mach at *
    refine ac_intro tabIs _ Try.func22 rfl rfl Try.ntmps22 rfl rfl fun w0 ok0 => ?_
    repeat (first | refine awp_seq ?_ | refine then_n ?_ | refine then_r ?_ | refine then_x ?_ | refine block_n ?_ | refine block_r ?_ | refine block_x ?_ | refine u_y ?_ | refine loop_r ?_ | refine loop_x ?_ | refine awp_region ?_ | refine awpL_nil ?_ | refine awpQL_nil ?_ | refine awp_block ?_ | refine awp_skip ?_ | refine awp_exit ?_ | refine awp_label ?_ | refine u_dT ?_ | refine u_d ?_ | ((first | apply c_l | apply c_q | apply c_lr | apply c_qr); (iterate 2 exact rfl); (focus (first | exact e1 | exact e2)); (iterate 2 exact rfl)) | refine u_l ?_ | refine u_o ?_ | refine u_q ?_ | refine u_lr ?_ | refine u_qr ?_ | refine u_ls ?_ | refine u_qs ?_ | refine u_t ?_ | refine u_f ?_)
    (refine awp_ret ?_; (repeat (first | refine then_r ?_ | refine block_r ?_ | refine loop_r ?_)); apply ret_ok (.inr rfl); (focus exact rfl))
    rw [failR_neg]
  · rw [if_neg hc]
    unfold mach at *
    refine ac_intro tabIs _ Try.func22 rfl rfl Try.ntmps22 rfl rfl fun w0 ok0 => ?_
    repeat (first | refine awp_seq ?_ | refine then_n ?_ | refine then_r ?_ | refine then_x ?_ | refine block_n ?_ | refine block_r ?_ | refine block_x ?_ | refine u_y ?_ | refine loop_r ?_ | refine loop_x ?_ | refine awp_region ?_ | refine awpL_nil ?_ | refine awpQL_nil ?_ | refine awp_block ?_ | refine awp_skip ?_ | refine awp_exit ?_ | refine awp_label ?_ | refine u_dT ?_ | refine u_d ?_ | ((first | apply c_l | apply c_q | apply c_lr | apply c_qr); (iterate 2 exact rfl); (focus (first | exact e1)); (iterate 2 exact rfl)) | refine u_l ?_ | refine u_o ?_ | refine u_q ?_ | refine u_lr ?_ | refine u_qr ?_ | refine u_ls ?_ | refine u_qs ?_ | refine u_t ?_ | refine u_f ?_)
    (refine awp_ret ?_; (repeat (first | refine then_r ?_ | refine block_r ?_ | refine loop_r ?_)); apply ret_ok (.inr rfl); (focus exact rfl))
    rfl

theorem impl_Passes {s o s' o' : Int} {nx ou nx' ou' ws : List (List Int)} (h1 : RowsOk nx) (h2 : RowsOk ou) (h3 : RowsOk nx') (h4 : RowsOk ou') (h5 : RowsOk ws) :
    AC Try.prog 23 [mach s o nx ou, mach s' o' nx' ou', rows ws] (.tup [.bool (psD s o s' o' nx ou nx' ou' ws).1, .int .i64 (psD s o s' o' nx ou nx' ou' ws).2]) := by
  have e1 := impl_FirstFailing (s := s) (o := o) (s' := s') (o' := o') h1 h2 h3 h4 h5
  unfold psD
  unfold ffD at e1
  by_cases hc : twoC s o s' o' nx ou nx' ou' ws = 0
  · rw [if_pos hc] at e1 ⊢
    by_cases hd : (failS nx ou nx' ou' 0 ws).1 < 0
    · rw [if_pos hd] at e1
      unfold mach at *
      refine ac_intro tabIs _ Try.func23 rfl rfl Try.ntmps23 rfl rfl fun w0 ok0 => ?_
      repeat (first | refine awp_seq ?_ | refine then_n ?_ | refine then_r ?_ | refine then_x ?_ | refine block_n ?_ | refine block_r ?_ | refine block_x ?_ | refine u_y ?_ | refine loop_r ?_ | refine loop_x ?_ | refine awp_region ?_ | refine awpL_nil ?_ | refine awpQL_nil ?_ | refine awp_block ?_ | refine awp_skip ?_ | refine awp_exit ?_ | refine awp_label ?_ | refine u_dT ?_ | refine u_d ?_ | ((first | apply c_l | apply c_q | apply c_lr | apply c_qr); (iterate 2 exact rfl); (focus (first | exact e1)); (iterate 2 exact rfl)) | refine u_l ?_ | refine u_o ?_ | refine u_q ?_ | refine u_lr ?_ | refine u_qr ?_ | refine u_ls ?_ | refine u_qs ?_ | refine u_t ?_ | refine u_f ?_)
      (refine awp_ret ?_; (repeat (first | refine then_r ?_ | refine block_r ?_ | refine loop_r ?_)); apply ret_ok (.inr rfl); (focus exact rfl))
      simp [hd]
    · rw [if_neg hd] at e1
      unfold mach at *
      refine ac_intro tabIs _ Try.func23 rfl rfl Try.ntmps23 rfl rfl fun w0 ok0 => ?_
      repeat (first | refine awp_seq ?_ | refine then_n ?_ | refine then_r ?_ | refine then_x ?_ | refine block_n ?_ | refine block_r ?_ | refine block_x ?_ | refine u_y ?_ | refine loop_r ?_ | refine loop_x ?_ | refine awp_region ?_ | refine awpL_nil ?_ | refine awpQL_nil ?_ | refine awp_block ?_ | refine awp_skip ?_ | refine awp_exit ?_ | refine awp_label ?_ | refine u_dT ?_ | refine u_d ?_ | ((first | apply c_l | apply c_q | apply c_lr | apply c_qr); (iterate 2 exact rfl); (focus (first | exact e1)); (iterate 2 exact rfl)) | refine u_l ?_ | refine u_o ?_ | refine u_q ?_ | refine u_lr ?_ | refine u_qr ?_ | refine u_ls ?_ | refine u_qs ?_ | refine u_t ?_ | refine u_f ?_)
      (refine awp_ret ?_; (repeat (first | refine then_r ?_ | refine block_r ?_ | refine loop_r ?_)); apply ret_ok (.inr rfl); (focus exact rfl))
      simp [hd]
  · rw [if_neg hc] at e1 ⊢
    rcases twoC_range s o s' o' nx ou nx' ou' ws with g | g | g
    · exact absurd g hc
    · rw [g] at e1 ⊢
      unfold mach at *
      refine ac_intro tabIs _ Try.func23 rfl rfl Try.ntmps23 rfl rfl fun w0 ok0 => ?_
      repeat (first | refine awp_seq ?_ | refine then_n ?_ | refine then_r ?_ | refine then_x ?_ | refine block_n ?_ | refine block_r ?_ | refine block_x ?_ | refine u_y ?_ | refine loop_r ?_ | refine loop_x ?_ | refine awp_region ?_ | refine awpL_nil ?_ | refine awpQL_nil ?_ | refine awp_block ?_ | refine awp_skip ?_ | refine awp_exit ?_ | refine awp_label ?_ | refine u_dT ?_ | refine u_d ?_ | ((first | apply c_l | apply c_q | apply c_lr | apply c_qr); (iterate 2 exact rfl); (focus (first | exact e1)); (iterate 2 exact rfl)) | refine u_l ?_ | refine u_o ?_ | refine u_q ?_ | refine u_lr ?_ | refine u_qr ?_ | refine u_ls ?_ | refine u_qs ?_ | refine u_t ?_ | refine u_f ?_)
      (refine awp_ret ?_; (repeat (first | refine then_r ?_ | refine block_r ?_ | refine loop_r ?_)); apply ret_ok (.inr rfl); (focus exact rfl))
      rfl
    · rw [g] at e1 ⊢
      unfold mach at *
      refine ac_intro tabIs _ Try.func23 rfl rfl Try.ntmps23 rfl rfl fun w0 ok0 => ?_
      repeat (first | refine awp_seq ?_ | refine then_n ?_ | refine then_r ?_ | refine then_x ?_ | refine block_n ?_ | refine block_r ?_ | refine block_x ?_ | refine u_y ?_ | refine loop_r ?_ | refine loop_x ?_ | refine awp_region ?_ | refine awpL_nil ?_ | refine awpQL_nil ?_ | refine awp_block ?_ | refine awp_skip ?_ | refine awp_exit ?_ | refine awp_label ?_ | refine u_dT ?_ | refine u_d ?_ | ((first | apply c_l | apply c_q | apply c_lr | apply c_qr); (iterate 2 exact rfl); (focus (first | exact e1)); (iterate 2 exact rfl)) | refine u_l ?_ | refine u_o ?_ | refine u_q ?_ | refine u_lr ?_ | refine u_qr ?_ | refine u_ls ?_ | refine u_qs ?_ | refine u_t ?_ | refine u_f ?_)
      (refine awp_ret ?_; (repeat (first | refine then_r ?_ | refine block_r ?_ | refine loop_r ?_)); apply ret_ok (.inr rfl); (focus exact rfl))
      rfl

theorem law_ExactFirstFailing {s o s' o' : Int} {nx ou nx' ou' ws : List (List Int)} (g1 : I64 s) (g2 : I64 o) (h1 : RowsOk nx) (h2 : RowsOk ou) (g3 : I64 s') (g4 : I64 o') (h3 : RowsOk nx') (h4 : RowsOk ou') (h5 : RowsOk ws) :
    AC Try.prog 3 [mach s o nx ou, mach s' o' nx' ou', rows ws] (.bool true) := by
  have hb : (0 : Int) ≤ 1048576 ∧ (1048576 : Int) ≤ 1048576 := by omega
  have e1 := laws_szMachine (s := s) (o := o) h1 h2 hb
  have hok := szM_ok (nx := nx) (ou := ou) (left := 1048576) (by omega)
  by_cases hc : szM nx ou 1048576 < 0
  · unfold mach at *
    refine ac_intro tabIs _ Try.func3 rfl rfl Try.ntmps3 rfl rfl fun w0 ok0 => ?_
    repeat (first | refine awp_seq ?_ | refine then_n ?_ | refine then_r ?_ | refine then_x ?_ | refine block_n ?_ | refine block_r ?_ | refine block_x ?_ | refine u_y ?_ | refine loop_r ?_ | refine loop_x ?_ | refine awp_region ?_ | refine awpL_nil ?_ | refine awpQL_nil ?_ | refine awp_block ?_ | refine awp_skip ?_ | refine awp_exit ?_ | refine awp_label ?_ | refine u_dT ?_ | refine u_d ?_ | ((first | apply c_l | apply c_q | apply c_lr | apply c_qr); (iterate 2 exact rfl); (focus (first | exact e1)); (iterate 2 exact rfl)) | refine u_l ?_ | refine u_o ?_ | refine u_q ?_ | refine u_lr ?_ | refine u_qr ?_ | refine u_ls ?_ | refine u_qs ?_ | refine u_t ?_ | refine u_f ?_)
    (refine awp_ret ?_; (repeat (first | refine then_r ?_ | refine block_r ?_ | refine loop_r ?_)); apply ret_ok (.inr rfl); (focus exact rfl))
    rfl
  · obtain ⟨⟨a1, a2⟩, a3, a4⟩ := hok.2.2 (by omega)
    have t1 := laws_toMachine (s := s) (o := o) (nx := nx) (ou := ou) (by omega) (fun ns hn => by have := a2 ns hn; omega) (by omega) (fun ns hn => by have := a4 ns hn; omega)
    have e2 := laws_szMachine (s := s') (o := o') (left := szM nx ou 1048576) h3 h4 (by omega)
    have hok2 := szM_ok (nx := nx') (ou := ou') (left := szM nx ou 1048576) (by omega)
    generalize szM nx ou 1048576 = left1 at *
    by_cases hd : szM nx' ou' left1 < 0
    · unfold mach at *
      refine ac_intro tabIs _ Try.func3 rfl rfl Try.ntmps3 rfl rfl fun w0 ok0 => ?_
      repeat (first | refine awp_seq ?_ | refine then_n ?_ | refine then_r ?_ | refine then_x ?_ | refine block_n ?_ | refine block_r ?_ | refine block_x ?_ | refine u_y ?_ | refine loop_r ?_ | refine loop_x ?_ | refine awp_region ?_ | refine awpL_nil ?_ | refine awpQL_nil ?_ | refine awp_block ?_ | refine awp_skip ?_ | refine awp_exit ?_ | refine awp_label ?_ | refine u_dT ?_ | refine u_d ?_ | ((first | apply c_l | apply c_q | apply c_lr | apply c_qr); (iterate 2 exact rfl); (focus (first | exact e1 | exact e2)); (iterate 2 exact rfl)) | refine u_l ?_ | refine u_o ?_ | refine u_q ?_ | refine u_lr ?_ | refine u_qr ?_ | refine u_ls ?_ | refine u_qs ?_ | refine u_t ?_ | refine u_f ?_)
      (refine awp_ret ?_; (repeat (first | refine then_r ?_ | refine block_r ?_ | refine loop_r ?_)); apply ret_ok (.inr rfl); (focus exact rfl))
      rfl
    · obtain ⟨⟨b1, b2⟩, b3, b4⟩ := hok2.2.2 (by omega)
      have t2 := laws_toMachine (s := s') (o := o') (nx := nx') (ou := ou') (by omega) (fun ns hn => by have := b2 ns hn; omega) (by omega) (fun ns hn => by have := b4 ns hn; omega)
      have e3 := laws_szInt64SS (nss := ws) (left := szM nx' ou' left1) h5 (by omega)
      have hok3 := szR_ok (nss := ws) (left := szM nx' ou' left1) (by omega)
      generalize szM nx' ou' left1 = left2 at *
      by_cases hf : szR ws left2 < 0
      · unfold mach at *
        refine ac_intro tabIs _ Try.func3 rfl rfl Try.ntmps3 rfl rfl fun w0 ok0 => ?_
        repeat (first | refine awp_seq ?_ | refine then_n ?_ | refine then_r ?_ | refine then_x ?_ | refine block_n ?_ | refine block_r ?_ | refine block_x ?_ | refine u_y ?_ | refine loop_r ?_ | refine loop_x ?_ | refine awp_region ?_ | refine awpL_nil ?_ | refine awpQL_nil ?_ | refine awp_block ?_ | refine awp_skip ?_ | refine awp_exit ?_ | refine awp_label ?_ | refine u_dT ?_ | refine u_d ?_ | ((first | apply c_l | apply c_q | apply c_lr | apply c_qr); (iterate 2 exact rfl); (focus (first | exact e1 | exact e2 | exact e3)); (iterate 2 exact rfl)) | refine u_l ?_ | refine u_o ?_ | refine u_q ?_ | refine u_lr ?_ | refine u_qr ?_ | refine u_ls ?_ | refine u_qs ?_ | refine u_t ?_ | refine u_f ?_)
        (refine awp_ret ?_; (repeat (first | refine then_r ?_ | refine block_r ?_ | refine loop_r ?_)); apply ret_ok (.inr rfl); (focus exact rfl))
        rfl
      · obtain ⟨c1, c2⟩ := hok3.2 (by omega)
        have t3 := laws_toInt64SS (nss := ws) (by omega) (fun ns hn => by have := c2 ns hn; omega)
        have q1 := laws_eqMachine (s := s) (o := o) (s' := s) (o' := o) h1 h2 h1 h2
        have q2 := laws_eqMachine (s := s') (o := o') (s' := s') (o' := o') h3 h4 h3 h4
        have q3 := laws_eqInt64SS h5 h5
        have f1 := spec_FirstFailing (s := s) (o := o) (s' := s') (o' := o') h1 h2 h3 h4 h5
        have f2 := impl_FirstFailing (s := s) (o := o) (s' := s') (o' := o') h1 h2 h3 h4 h5
        generalize szR ws left2 = left3 at *
        simp only [decide_true, Bool.and_true] at q1 q2 q3
        unfold mach at *
        refine ac_intro tabIs _ Try.func3 rfl rfl Try.ntmps3 rfl rfl fun w0 ok0 => ?_
        repeat' (first | refine awp_seq ?_ | refine then_n ?_ | refine then_r ?_ | refine then_x ?_ | refine block_n ?_ | refine block_r ?_ | refine block_x ?_ | refine u_y ?_ | refine loop_r ?_ | refine loop_x ?_ | refine awp_region ?_ | refine awpL_nil ?_ | refine awpQL_nil ?_ | refine awp_block ?_ | refine awp_skip ?_ | refine awp_exit ?_ | refine awp_label ?_ | refine u_dT ?_ | refine u_d ?_ | ((first | apply c_l | apply c_q | apply c_lr | apply c_qr); (iterate 2 exact rfl); (focus (first | exact e1 | exact e2 | exact e3 | exact t1 | exact t2 | exact t3 | exact q1 | exact q2 | exact q3 | exact f1 | exact f2)); (iterate 2 exact rfl)) | refine u_l ?_ | refine u_o ?_ | refine u_q ?_ | refine u_lr ?_ | refine u_qr ?_ | refine u_ls ?_ | refine u_qs ?_ | refine u_t ?_ | refine u_f ?_ | ((first | refine u_sl ?_ ?_ | refine u_sq ?_ ?_) <;> (intro hb; try (simp at hb; done))) | (refine u_c ?_ ?_ <;> (intro hc; try (simp at hc; done))) | refine awp_ret ?_ | refine u_r ?_ | refine u_rC ?_)
        all_goals simp_all

theorem law_ExactPasses {s o s' o' : Int} {nx ou nx' ou' ws : List (List Int)} (g1 : I64 s) (g2 : I64 o) (h1 : RowsOk nx) (h2 : RowsOk ou) (g3 : I64 s') (g4 : I64 o') (h3 : RowsOk nx') (h4 : RowsOk ou') (h5 : RowsOk ws) :
    AC Try.prog 4 [mach s o nx ou, mach s' o' nx' ou', rows ws] (.bool true) := by
  have hb : (0 : Int) ≤ 1048576 ∧ (1048576 : Int) ≤ 1048576 := by omega
  have e1 := laws_szMachine (s := s) (o := o) h1 h2 hb
  have hok := szM_ok (nx := nx) (ou := ou) (left := 1048576) (by omega)
  by_cases hc : szM nx ou 1048576 < 0
  · unfold mach at *
    refine ac_intro tabIs _ Try.func4 rfl rfl Try.ntmps4 rfl rfl fun w0 ok0 => ?_
    repeat (first | refine awp_seq ?_ | refine then_n ?_ | refine then_r ?_ | refine then_x ?_ | refine block_n ?_ | refine block_r ?_ | refine block_x ?_ | refine u_y ?_ | refine loop_r ?_ | refine loop_x ?_ | refine awp_region ?_ | refine awpL_nil ?_ | refine awpQL_nil ?_ | refine awp_block ?_ | refine awp_skip ?_ | refine awp_exit ?_ | refine awp_label ?_ | refine u_dT ?_ | refine u_d ?_ | ((first | apply c_l | apply c_q | apply c_lr | apply c_qr); (iterate 2 exact rfl); (focus (first | exact e1)); (iterate 2 exact rfl)) | refine u_l ?_ | refine u_o ?_ | refine u_q ?_ | refine u_lr ?_ | refine u_qr ?_ | refine u_ls ?_ | refine u_qs ?_ | refine u_t ?_ | refine u_f ?_)
    (refine awp_ret ?_; (repeat (first | refine then_r ?_ | refine block_r ?_ | refine loop_r ?_)); apply ret_ok (.inr rfl); (focus exact rfl))
    rfl
  · obtain ⟨⟨a1, a2⟩, a3, a4⟩ := hok.2.2 (by omega)
    have t1 := laws_toMachine (s := s) (o := o) (nx := nx) (ou := ou) (by omega) (fun ns hn => by have := a2 ns hn; omega) (by omega) (fun ns hn => by have := a4 ns hn; omega)
    have e2 := laws_szMachine (s := s') (o := o') (left := szM nx ou 1048576) h3 h4 (by omega)
    have hok2 := szM_ok (nx := nx') (ou := ou') (left := szM nx ou 1048576) (by omega)
    generalize szM nx ou 1048576 = left1 at *
    by_cases hd : szM nx' ou' left1 < 0
    · unfold mach at *
      refine ac_intro tabIs _ Try.func4 rfl rfl Try.ntmps4 rfl rfl fun w0 ok0 => ?_
      repeat (first | refine awp_seq ?_ | refine then_n ?_ | refine then_r ?_ | refine then_x ?_ | refine block_n ?_ | refine block_r ?_ | refine block_x ?_ | refine u_y ?_ | refine loop_r ?_ | refine loop_x ?_ | refine awp_region ?_ | refine awpL_nil ?_ | refine awpQL_nil ?_ | refine awp_block ?_ | refine awp_skip ?_ | refine awp_exit ?_ | refine awp_label ?_ | refine u_dT ?_ | refine u_d ?_ | ((first | apply c_l | apply c_q | apply c_lr | apply c_qr); (iterate 2 exact rfl); (focus (first | exact e1 | exact e2)); (iterate 2 exact rfl)) | refine u_l ?_ | refine u_o ?_ | refine u_q ?_ | refine u_lr ?_ | refine u_qr ?_ | refine u_ls ?_ | refine u_qs ?_ | refine u_t ?_ | refine u_f ?_)
      (refine awp_ret ?_; (repeat (first | refine then_r ?_ | refine block_r ?_ | refine loop_r ?_)); apply ret_ok (.inr rfl); (focus exact rfl))
      rfl
    · obtain ⟨⟨b1, b2⟩, b3, b4⟩ := hok2.2.2 (by omega)
      have t2 := laws_toMachine (s := s') (o := o') (nx := nx') (ou := ou') (by omega) (fun ns hn => by have := b2 ns hn; omega) (by omega) (fun ns hn => by have := b4 ns hn; omega)
      have e3 := laws_szInt64SS (nss := ws) (left := szM nx' ou' left1) h5 (by omega)
      have hok3 := szR_ok (nss := ws) (left := szM nx' ou' left1) (by omega)
      generalize szM nx' ou' left1 = left2 at *
      by_cases hf : szR ws left2 < 0
      · unfold mach at *
        refine ac_intro tabIs _ Try.func4 rfl rfl Try.ntmps4 rfl rfl fun w0 ok0 => ?_
        repeat (first | refine awp_seq ?_ | refine then_n ?_ | refine then_r ?_ | refine then_x ?_ | refine block_n ?_ | refine block_r ?_ | refine block_x ?_ | refine u_y ?_ | refine loop_r ?_ | refine loop_x ?_ | refine awp_region ?_ | refine awpL_nil ?_ | refine awpQL_nil ?_ | refine awp_block ?_ | refine awp_skip ?_ | refine awp_exit ?_ | refine awp_label ?_ | refine u_dT ?_ | refine u_d ?_ | ((first | apply c_l | apply c_q | apply c_lr | apply c_qr); (iterate 2 exact rfl); (focus (first | exact e1 | exact e2 | exact e3)); (iterate 2 exact rfl)) | refine u_l ?_ | refine u_o ?_ | refine u_q ?_ | refine u_lr ?_ | refine u_qr ?_ | refine u_ls ?_ | refine u_qs ?_ | refine u_t ?_ | refine u_f ?_)
        (refine awp_ret ?_; (repeat (first | refine then_r ?_ | refine block_r ?_ | refine loop_r ?_)); apply ret_ok (.inr rfl); (focus exact rfl))
        rfl
      · obtain ⟨c1, c2⟩ := hok3.2 (by omega)
        have t3 := laws_toInt64SS (nss := ws) (by omega) (fun ns hn => by have := c2 ns hn; omega)
        have q1 := laws_eqMachine (s := s) (o := o) (s' := s) (o' := o) h1 h2 h1 h2
        have q2 := laws_eqMachine (s := s') (o := o') (s' := s') (o' := o') h3 h4 h3 h4
        have q3 := laws_eqInt64SS h5 h5
        have f1 := spec_Passes (s := s) (o := o) (s' := s') (o' := o') h1 h2 h3 h4 h5
        have f2 := impl_Passes (s := s) (o := o) (s' := s') (o' := o') h1 h2 h3 h4 h5
        generalize szR ws left2 = left3 at *
        simp only [decide_true, Bool.and_true] at q1 q2 q3
        unfold mach at *
        refine ac_intro tabIs _ Try.func4 rfl rfl Try.ntmps4 rfl rfl fun w0 ok0 => ?_
        repeat' (first | refine awp_seq ?_ | refine then_n ?_ | refine then_r ?_ | refine then_x ?_ | refine block_n ?_ | refine block_r ?_ | refine block_x ?_ | refine u_y ?_ | refine loop_r ?_ | refine loop_x ?_ | refine awp_region ?_ | refine awpL_nil ?_ | refine awpQL_nil ?_ | refine awp_block ?_ | refine awp_skip ?_ | refine awp_exit ?_ | refine awp_label ?_ | refine u_dT ?_ | refine u_d ?_ | ((first | apply c_l | apply c_q | apply c_lr | apply c_qr); (iterate 2 exact rfl); (focus (first | exact e1 | exact e2 | exact e3 | exact t1 | exact t2 | exact t3 | exact q1 | exact q2 | exact q3 | exact f1 | exact f2)); (iterate 2 exact rfl)) | refine u_l ?_ | refine u_o ?_ | refine u_q ?_ | refine u_lr ?_ | refine u_qr ?_ | refine u_ls ?_ | refine u_qs ?_ | refine u_t ?_ | refine u_f ?_ | ((first | refine u_sl ?_ ?_ | refine u_sq ?_ ?_) <;> (intro hb; try (simp at hb; done))) | (refine u_c ?_ ?_ <;> (intro hc; try (simp at hc; done))) | refine awp_ret ?_ | refine u_r ?_ | refine u_rC ?_)
        all_goals simp_all


end Go.Proofs.Ytnlajcnbmdldfaa
