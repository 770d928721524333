/- MutantAt, in the reference and in the program, and its law. No condition. -/
import Derived.Test.YtiiiipddgfnbmaaNc
import Derived.Test.YtiiiipddgfnbmaaNe
namespace Go.Proofs.Ytiiiipddgfnbmaa
open Go
attribute [local irreducible] awp awpL awpQL awpQ awpM pWalk Qt AC thenQ blockQ loopQ OpTo
set_option linter.unusedVariables false
set_option linter.unusedSimpArgs false
set_option maxHeartbeats 2000000
attribute [local irreducible] HC

theorem inB_iff {n lo hi : Int} : inB n lo hi = true ↔ lo ≤ n ∧ n ≤ hi := by simp [inB]

theorem impl_code {s o : Int} {nx ou : List (List Int)} {g : Nat} {cap : List D} {b : Bool} (h1 : RowsOk nx) (h2 : RowsOk ou) (hg : machOk s o nx ou = true → AC Try.prog g cap (.bool b)) :
    AC Try.prog 28 [mach s o nx ou, .fn g cap] (.int .i64 (if machOk s o nx ou then (if b then 0 else 2) else 1)) := by
  have e1 := impl_ValidMachine (s := s) (o := o) h1 h2
  by_cases hv : machOk s o nx ou = true
  · have e2 := hg hv
    rw [hv] at e1 ⊢
    cases b with
    | true =>
      refine ac_intro tabIs _ Try.func28 rfl rfl Try.ntmps28 rfl rfl fun w0 ok0 => ?_
      repeat (first | refine awp_seq ?_ | refine then_n ?_ | refine then_r ?_ | refine then_x ?_ | refine block_n ?_ | refine block_r ?_ | refine block_x ?_ | refine u_y ?_ | refine loop_r ?_ | refine loop_x ?_ | refine awp_region ?_ | refine awpL_nil ?_ | refine awpQL_nil ?_ | refine awp_block ?_ | refine awp_skip ?_ | refine awp_exit ?_ | refine awp_label ?_ | refine u_dT ?_ | refine u_d ?_ | ((first | apply c_l | apply c_q | apply c_lr | apply c_qr); (iterate 2 exact rfl); (focus (first | exact e1 | exact e2)); (iterate 2 exact rfl)) | (apply y_c; (iterate 4 exact rfl); (focus (first | exact e1 | exact e2)); (iterate 2 exact rfl)) | refine u_l ?_ | refine u_o ?_ | refine u_q ?_ | refine u_lr ?_ | refine u_qr ?_ | refine u_ls ?_ | refine u_qs ?_ | refine u_t ?_ | refine u_f ?_ | refine y_s ?_ | refine v_o ?_ | refine v_on ?_ | refine v_og ?_ | refine y_q ?_ | refine y_sr ?_ | refine y_k ?_ | refine m_nil ?_)
      (refine awp_ret ?_; (repeat (first | refine then_r ?_ | refine block_r ?_ | refine loop_r ?_)); apply ret_ok (.inr rfl); (focus exact rfl))
      rfl
    | false =>
      refine ac_intro tabIs _ Try.func28 rfl rfl Try.ntmps28 rfl rfl fun w0 ok0 => ?_
      repeat (first | refine awp_seq ?_ | refine then_n ?_ | refine then_r ?_ | refine then_x ?_ | refine block_n ?_ | refine block_r ?_ | refine block_x ?_ | refine u_y ?_ | refine loop_r ?_ | refine loop_x ?_ | refine awp_region ?_ | refine awpL_nil ?_ | refine awpQL_nil ?_ | refine awp_block ?_ | refine awp_skip ?_ | refine awp_exit ?_ | refine awp_label ?_ | refine u_dT ?_ | refine u_d ?_ | ((first | apply c_l | apply c_q | apply c_lr | apply c_qr); (iterate 2 exact rfl); (focus (first | exact e1 | exact e2)); (iterate 2 exact rfl)) | (apply y_c; (iterate 4 exact rfl); (focus (first | exact e1 | exact e2)); (iterate 2 exact rfl)) | refine u_l ?_ | refine u_o ?_ | refine u_q ?_ | refine u_lr ?_ | refine u_qr ?_ | refine u_ls ?_ | refine u_qs ?_ | refine u_t ?_ | refine u_f ?_ | refine y_s ?_ | refine v_o ?_ | refine v_on ?_ | refine v_og ?_ | refine y_q ?_ | refine y_sr ?_ | refine y_k ?_ | refine m_nil ?_)
      (refine awp_ret ?_; (repeat (first | refine then_r ?_ | refine block_r ?_ | refine loop_r ?_)); apply ret_ok (.inr rfl); (focus exact rfl))
      rfl
  · have hv' : machOk s o nx ou = false := by simpa using hv
    rw [hv'] at e1 ⊢
    refine ac_intro tabIs _ Try.func28 rfl rfl Try.ntmps28 rfl rfl fun w0 ok0 => ?_
    repeat (first | refine awp_seq ?_ | refine then_n ?_ | refine then_r ?_ | refine then_x ?_ | refine block_n ?_ | refine block_r ?_ | refine block_x ?_ | refine u_y ?_ | refine loop_r ?_ | refine loop_x ?_ | refine awp_region ?_ | refine awpL_nil ?_ | refine awpQL_nil ?_ | refine awp_block ?_ | refine awp_skip ?_ | refine awp_exit ?_ | refine awp_label ?_ | refine u_dT ?_ | refine u_d ?_ | ((first | apply c_l | apply c_q | apply c_lr | apply c_qr); (iterate 2 exact rfl); (focus (first | exact e1)); (iterate 2 exact rfl)) | (apply y_c; (iterate 4 exact rfl); (focus (first | exact e1)); (iterate 2 exact rfl)) | refine u_l ?_ | refine u_o ?_ | refine u_q ?_ | refine u_lr ?_ | refine u_qr ?_ | refine u_ls ?_ | refine u_qs ?_ | refine u_t ?_ | refine u_f ?_ | refine y_s ?_ | refine v_o ?_ | refine v_on ?_ | refine v_og ?_ | refine y_q ?_ | refine y_sr ?_ | refine y_k ?_ | refine m_nil ?_)
    (refine awp_ret ?_; (repeat (first | refine then_r ?_ | refine block_r ?_ | refine loop_r ?_)); apply ret_ok (.inr rfl); (focus exact rfl))
    rfl

/-- What MutantAt returns. -/
def mutAt (s o : Int) (nx ou : List (List Int)) (k : Int) : (Int × Int) × (List (List Int) × List (List Int)) × Int :=
  if machOk s o nx ou then (if inB k 0 (mutN s o nx.length - 1) then ((s, o), mutX s o nx ou k, 0) else ((0, 0), ([], []), 2)) else ((0, 0), ([], []), 1)

theorem spec_MutantAt {s o k : Int} {nx ou : List (List Int)} (h1 : RowsOk nx) (h2 : RowsOk ou) :
    AC Try.prog 7 [mach s o nx ou, .int .i64 k] (.tup [mach (mutAt s o nx ou k).1.1 (mutAt s o nx ou k).1.2 (mutAt s o nx ou k).2.1.1 (mutAt s o nx ou k).2.1.2, .int .i64 (mutAt s o nx ou k).2.2]) := by
  have e0 := spec_l06Ok (s := s) (o := o) h1 h2
  unfold mutAt
  by_cases hv : machOk s o nx ou = true
  · rw [if_pos hv]
    rw [hv] at e0
    have m := mv_of hv
    have hb := mutN_bounds m.s1 m.o1 m.n1.2
    have e1 := spec_l07Count (ou := ou) m.s1 m.o1 m.n1.2
    have e2 := spec_l00In (n := k) (lo := 0) (hi := mutN s o nx.length - 1)
    by_cases hr : inB k 0 (mutN s o nx.length - 1) = true
    · rw [if_pos hr]
      rw [hr] at e2
      have hk := inB_iff.1 hr
      have e3 := spec_l07Mutant m (k := k) (by omega)
      refine ac_introC tabIs _ Try.func7 rfl rfl Try.ntmps7 rfl rfl fun w0 ok0 => ?_
      repeat (first | refine awp_seq ?_ | refine then_n ?_ | refine then_r ?_ | refine then_x ?_ | refine block_n ?_ | refine block_r ?_ | refine block_x ?_ | refine u_y ?_ | refine loop_r ?_ | refine loop_x ?_ | refine awp_region ?_ | refine awpL_nil ?_ | refine awpQL_nil ?_ | refine awp_block ?_ | refine awp_skip ?_ | refine awp_exit ?_ | refine awp_label ?_ | refine u_dT ?_ | refine u_d ?_ | ((first | apply c_l | apply c_q | apply c_lr | apply c_qr); (iterate 2 exact rfl); (focus (first | exact e0 | exact e1 | exact e2 | exact e3)); (iterate 2 exact rfl)) | (apply y_c; (iterate 4 exact rfl); (focus (first | exact e0 | exact e1 | exact e2 | exact e3)); (iterate 2 exact rfl)) | refine u_l ?_ | refine u_o ?_ | refine u_q ?_ | refine u_lr ?_ | refine u_qr ?_ | refine u_ls ?_ | refine u_qs ?_ | refine u_t ?_ | refine u_f ?_ | refine y_s ?_ | refine v_o ?_ | refine v_on ?_ | refine v_og ?_ | refine y_q ?_ | refine y_sr ?_ | refine y_k ?_ | refine m_nil ?_)
      (refine awp_ret ?_; (repeat (first | refine then_r ?_ | refine block_r ?_ | refine loop_r ?_)); apply ret_okC (.inr rfl); (focus exact rfl))
      rfl
    · have hr' : inB k 0 (mutN s o nx.length - 1) = false := by simpa using hr
      rw [if_neg hr]
      rw [hr'] at e2
      refine ac_introC tabIs _ Try.func7 rfl rfl Try.ntmps7 rfl rfl fun w0 ok0 => ?_
      repeat (first | refine awp_seq ?_ | refine then_n ?_ | refine then_r ?_ | refine then_x ?_ | refine block_n ?_ | refine block_r ?_ | refine block_x ?_ | refine u_y ?_ | refine loop_r ?_ | refine loop_x ?_ | refine awp_region ?_ | refine awpL_nil ?_ | refine awpQL_nil ?_ | refine awp_block ?_ | refine awp_skip ?_ | refine awp_exit ?_ | refine awp_label ?_ | refine u_dT ?_ | refine u_d ?_ | ((first | apply c_l | apply c_q | apply c_lr | apply c_qr); (iterate 2 exact rfl); (focus (first | exact e0 | exact e1 | exact e2)); (iterate 2 exact rfl)) | (apply y_c; (iterate 4 exact rfl); (focus (first | exact e0 | exact e1 | exact e2)); (iterate 2 exact rfl)) | refine u_l ?_ | refine u_o ?_ | refine u_q ?_ | refine u_lr ?_ | refine u_qr ?_ | refine u_ls ?_ | refine u_qs ?_ | refine u_t ?_ | refine u_f ?_ | refine y_s ?_ | refine v_o ?_ | refine v_on ?_ | refine v_og ?_ | refine y_q ?_ | refine y_sr ?_ | refine y_k ?_ | refine m_nil ?_)
      refine awp_nilCell 4 2 300 34 1 (by exact rfl) (by exact rfl) rfl rfl rfl ?_
      refine awp_nilCell 4 3 301 34 1 (by exact rfl) (by exact rfl) rfl rfl rfl ?_
      refine awp_freeze 300 rfl rfl ?_
      refine awp_freeze 301 rfl rfl ?_
      (refine awp_ret ?_; (repeat (first | refine then_r ?_ | refine block_r ?_ | refine loop_r ?_)); apply ret_okC (.inr rfl); (focus exact rfl))
      rfl
  · have hv' : machOk s o nx ou = false := by simpa using hv
    rw [if_neg hv]
    rw [hv'] at e0
    refine ac_introC tabIs _ Try.func7 rfl rfl Try.ntmps7 rfl rfl fun w0 ok0 => ?_
    repeat (first | refine awp_seq ?_ | refine then_n ?_ | refine then_r ?_ | refine then_x ?_ | refine block_n ?_ | refine block_r ?_ | refine block_x ?_ | refine u_y ?_ | refine loop_r ?_ | refine loop_x ?_ | refine awp_region ?_ | refine awpL_nil ?_ | refine awpQL_nil ?_ | refine awp_block ?_ | refine awp_skip ?_ | refine awp_exit ?_ | refine awp_label ?_ | refine u_dT ?_ | refine u_d ?_ | ((first | apply c_l | apply c_q | apply c_lr | apply c_qr); (iterate 2 exact rfl); (focus (first | exact e0)); (iterate 2 exact rfl)) | (apply y_c; (iterate 4 exact rfl); (focus (first | exact e0)); (iterate 2 exact rfl)) | refine u_l ?_ | refine u_o ?_ | refine u_q ?_ | refine u_lr ?_ | refine u_qr ?_ | refine u_ls ?_ | refine u_qs ?_ | refine u_t ?_ | refine u_f ?_ | refine y_s ?_ | refine v_o ?_ | refine v_on ?_ | refine v_og ?_ | refine y_q ?_ | refine y_sr ?_ | refine y_k ?_ | refine m_nil ?_)
    refine awp_nilCell 4 2 300 34 1 (by exact rfl) (by exact rfl) rfl rfl rfl ?_
    refine awp_nilCell 4 3 301 34 1 (by exact rfl) (by exact rfl) rfl rfl rfl ?_
    refine awp_freeze 300 rfl rfl ?_
    refine awp_freeze 301 rfl rfl ?_
    (refine awp_ret ?_; (repeat (first | refine then_r ?_ | refine block_r ?_ | refine loop_r ?_)); apply ret_okC (.inr rfl); (focus exact rfl))
    rfl

theorem impl_MutantAt1 {s o k : Int} {nx ou : List (List Int)} (m : MV s o nx ou) : AC Try.prog 29 [.ptr (.int .i64 k), .ptr (mach s o nx ou)] (.bool (inB k 0 (mutN s o nx.length - 1))) := by
  have hb := mutN_bounds m.s1 m.o1 m.n1.2
  have e1 := impl_mutants (ou := ou) m.s1 m.o1 m.n1.2
  have e2 := impl_within (n := k) (lo := 0) (hi := mutN s o nx.length - 1)
  refine ac_intro tabIs _ Try.func29 rfl rfl Try.ntmps29 rfl rfl fun w0 ok0 => ?_
  repeat (first | refine awp_seq ?_ | refine then_n ?_ | refine then_r ?_ | refine then_x ?_ | refine block_n ?_ | refine block_r ?_ | refine block_x ?_ | refine u_y ?_ | refine loop_r ?_ | refine loop_x ?_ | refine awp_region ?_ | refine awpL_nil ?_ | refine awpQL_nil ?_ | refine awp_block ?_ | refine awp_skip ?_ | refine awp_exit ?_ | refine awp_label ?_ | refine u_dT ?_ | refine u_d ?_ | ((first | apply c_l | apply c_q | apply c_lr | apply c_qr); (iterate 2 exact rfl); (focus (first | exact e1 | exact e2)); (iterate 2 exact rfl)) | (apply y_c; (iterate 4 exact rfl); (focus (first | exact e1 | exact e2)); (iterate 2 exact rfl)) | refine u_l ?_ | refine u_o ?_ | refine u_q ?_ | refine u_lr ?_ | refine u_qr ?_ | refine u_ls ?_ | refine u_qs ?_ | refine u_t ?_ | refine u_f ?_ | refine y_s ?_ | refine v_o ?_ | refine v_on ?_ | refine v_og ?_ | refine y_q ?_ | refine y_sr ?_ | refine y_k ?_ | refine m_nil ?_)
  (refine awp_ret ?_; (repeat (first | refine then_r ?_ | refine block_r ?_ | refine loop_r ?_)); apply ret_ok (.inr rfl); (focus exact rfl))
  rfl

theorem impl_MutantAtH {s o k : Int} {nx ou : List (List Int)} (h1 : RowsOk nx) (h2 : RowsOk ou) :
    HC Try.prog 9 [.d (mach s o nx ou), .d (.int .i64 k)] [] (.tup [.agg [.d (.int .i64 (mutAt s o nx ou k).1.1), .d (.int .i64 (mutAt s o nx ou k).1.2), .own 30000, .own 30001], .d (.int .i64 (mutAt s o nx ou k).2.2)])
      [(30000, .rows 34 2 1 (rws (mutAt s o nx ou k).2.1.1) none), (30001, .rows 34 2 1 (rws (mutAt s o nx ou k).2.1.2) none)] := by
  have e1 := impl_code (s := s) (o := o) (g := 29) (cap := [.ptr (.int .i64 k), .ptr (mach s o nx ou)]) h1 h2 fun hv => impl_MutantAt1 (mv_of hv)
  unfold mutAt
  by_cases hv : machOk s o nx ou = true
  · rw [if_pos hv] at e1 ⊢
    have m := mv_of hv
    by_cases hr : inB k 0 (mutN s o nx.length - 1) = true
    · rw [if_pos hr] at e1 ⊢
      have hk := inB_iff.1 hr
      have e3 := impl_mutantH m (k := k) (by omega)
      refine hc_intro tabIs _ Try.func9 rfl rfl Try.ntmps9 rfl rfl rfl ?_ fun w0 ok0 XM XA anc => ?_
      · exact likeIn_nil
      repeat (first | refine awp_seq ?_ | refine then_n ?_ | refine then_r ?_ | refine then_x ?_ | refine block_n ?_ | refine block_r ?_ | refine block_x ?_ | refine u_y ?_ | refine loop_r ?_ | refine loop_x ?_ | refine awp_region ?_ | refine awpL_nil ?_ | refine awpQL_nil ?_ | refine awp_block ?_ | refine awp_skip ?_ | refine awp_exit ?_ | refine awp_label ?_ | refine u_dT ?_ | refine u_d ?_ | ((first | apply c_l | apply c_q | apply c_lr | apply c_qr); (iterate 2 exact rfl); (focus (first | exact e1)); (iterate 2 exact rfl)) | (apply y_c; (iterate 4 exact rfl); (focus (first | exact e1)); (iterate 2 exact rfl)) | refine u_l ?_ | refine u_o ?_ | refine u_q ?_ | refine u_lr ?_ | refine u_qr ?_ | refine u_ls ?_ | refine u_qs ?_ | refine u_t ?_ | refine u_f ?_ | refine y_s ?_ | refine v_o ?_ | refine v_on ?_ | refine v_og ?_ | refine y_q ?_ | refine y_sr ?_ | refine y_k ?_ | refine m_nil ?_)
      refine hcl [] [(30000, 500), (30001, 501)] e3 ?_
      repeat (first | refine awp_seq ?_ | refine then_n ?_ | refine then_r ?_ | refine then_x ?_ | refine block_n ?_ | refine block_r ?_ | refine block_x ?_ | refine u_y ?_ | refine loop_r ?_ | refine loop_x ?_ | refine awp_region ?_ | refine awpL_nil ?_ | refine awpQL_nil ?_ | refine awp_block ?_ | refine awp_skip ?_ | refine awp_exit ?_ | refine awp_label ?_ | refine u_dT ?_ | refine u_d ?_ | refine u_l ?_ | refine u_o ?_ | refine u_q ?_ | refine u_lr ?_ | refine u_qr ?_ | refine u_ls ?_ | refine u_qs ?_ | refine u_t ?_ | refine u_f ?_ | refine y_s ?_ | refine v_o ?_ | refine v_on ?_ | refine v_og ?_ | refine y_q ?_ | refine y_sr ?_ | refine y_k ?_ | refine m_nil ?_)
      (refine awp_ret ?_; (repeat (first | refine then_r ?_ | refine block_r ?_ | refine loop_r ?_)); refine u_rH [(500, 30000), (501, 30001)] ?_ ?_)
      · rfl
      · rfl
    · rw [if_neg hr] at e1 ⊢
      refine hc_intro tabIs _ Try.func9 rfl rfl Try.ntmps9 rfl rfl rfl ?_ fun w0 ok0 XM XA anc => ?_
      · exact likeIn_nil
      repeat (first | refine awp_seq ?_ | refine then_n ?_ | refine then_r ?_ | refine then_x ?_ | refine block_n ?_ | refine block_r ?_ | refine block_x ?_ | refine u_y ?_ | refine loop_r ?_ | refine loop_x ?_ | refine awp_region ?_ | refine awpL_nil ?_ | refine awpQL_nil ?_ | refine awp_block ?_ | refine awp_skip ?_ | refine awp_exit ?_ | refine awp_label ?_ | refine u_dT ?_ | refine u_d ?_ | ((first | apply c_l | apply c_q | apply c_lr | apply c_qr); (iterate 2 exact rfl); (focus (first | exact e1)); (iterate 2 exact rfl)) | (apply y_c; (iterate 4 exact rfl); (focus (first | exact e1)); (iterate 2 exact rfl)) | refine u_l ?_ | refine u_o ?_ | refine u_q ?_ | refine u_lr ?_ | refine u_qr ?_ | refine u_ls ?_ | refine u_qs ?_ | refine u_t ?_ | refine u_f ?_ | refine y_s ?_ | refine v_o ?_ | refine v_on ?_ | refine v_og ?_ | refine y_q ?_ | refine y_sr ?_ | refine y_k ?_ | refine m_nil ?_)
      refine awp_nilCell 4 2 300 34 1 (by exact rfl) (by exact rfl) rfl rfl rfl ?_
      refine awp_toRows 300 2 1 rfl rfl rfl rfl ?_
      refine awp_nilCell 4 3 301 34 1 (by exact rfl) (by exact rfl) rfl rfl rfl ?_
      refine awp_toRows 301 2 1 rfl rfl rfl rfl ?_
      (refine awp_ret ?_; (repeat (first | refine then_r ?_ | refine block_r ?_ | refine loop_r ?_)); refine u_rH [(300, 30000), (301, 30001)] ?_ ?_)
      · rfl
      · rfl
  · rw [if_neg hv] at e1 ⊢
    refine hc_intro tabIs _ Try.func9 rfl rfl Try.ntmps9 rfl rfl rfl ?_ fun w0 ok0 XM XA anc => ?_
    · exact likeIn_nil
    repeat (first | refine awp_seq ?_ | refine then_n ?_ | refine then_r ?_ | refine then_x ?_ | refine block_n ?_ | refine block_r ?_ | refine block_x ?_ | refine u_y ?_ | refine loop_r ?_ | refine loop_x ?_ | refine awp_region ?_ | refine awpL_nil ?_ | refine awpQL_nil ?_ | refine awp_block ?_ | refine awp_skip ?_ | refine awp_exit ?_ | refine awp_label ?_ | refine u_dT ?_ | refine u_d ?_ | ((first | apply c_l | apply c_q | apply c_lr | apply c_qr); (iterate 2 exact rfl); (focus (first | exact e1)); (iterate 2 exact rfl)) | (apply y_c; (iterate 4 exact rfl); (focus (first | exact e1)); (iterate 2 exact rfl)) | refine u_l ?_ | refine u_o ?_ | refine u_q ?_ | refine u_lr ?_ | refine u_qr ?_ | refine u_ls ?_ | refine u_qs ?_ | refine u_t ?_ | refine u_f ?_ | refine y_s ?_ | refine v_o ?_ | refine v_on ?_ | refine v_og ?_ | refine y_q ?_ | refine y_sr ?_ | refine y_k ?_ | refine m_nil ?_)
    refine awp_nilCell 4 2 300 34 1 (by exact rfl) (by exact rfl) rfl rfl rfl ?_
    refine awp_toRows 300 2 1 rfl rfl rfl rfl ?_
    refine awp_nilCell 4 3 301 34 1 (by exact rfl) (by exact rfl) rfl rfl rfl ?_
    refine awp_toRows 301 2 1 rfl rfl rfl rfl ?_
    (refine awp_ret ?_; (repeat (first | refine then_r ?_ | refine block_r ?_ | refine loop_r ?_)); refine u_rH [(300, 30000), (301, 30001)] ?_ ?_)
    · rfl
    · rfl

theorem mutAt_small {s o k : Int} {nx ou : List (List Int)} : RowsOk (mutAt s o nx ou k).2.1.1 ∧ RowsOk (mutAt s o nx ou k).2.1.2 ∧ ((mutAt s o nx ou k).2.1.1.length ≤ 3 ∧ ∀ ns ∈ (mutAt s o nx ou k).2.1.1, ns.length ≤ 10) ∧ ((mutAt s o nx ou k).2.1.2.length ≤ 3 ∧ ∀ ns ∈ (mutAt s o nx ou k).2.1.2, ns.length ≤ 10) := by
  unfold mutAt
  split
  · rename_i hv
    have m := mv_of hv
    split
    · rename_i hr
      have hk := inB_iff.1 hr
      obtain ⟨m', hl⟩ := mv_mut m (k := k) (by omega)
      have n1 := m'.n1
      have s1 := m'.s1
      exact ⟨m'.rnx, m'.rou, ⟨n1.2, fun ns h => by have := (m'.nx ns h).1; omega⟩, by rw [m'.eq]; exact n1.2, fun ns h => by have := (m'.ou ns h).1; omega⟩
    · exact ⟨⟨by simp, by simp⟩, ⟨by simp, by simp⟩, ⟨by simp, by simp⟩, by simp, by simp⟩
  · exact ⟨⟨by simp, by simp⟩, ⟨by simp, by simp⟩, ⟨by simp, by simp⟩, by simp, by simp⟩

theorem tot_boundN {nss : List (List Int)} {m : Nat} (h : ∀ ns ∈ nss, ns.length ≤ m) : tot nss ≤ nss.length * m := by
  induction nss with
  | nil => simp [tot]
  | cons x l ih =>
    have h1 := h x (List.mem_cons_self ..)
    have h2 := ih fun ns hn => h ns (List.mem_cons_of_mem _ hn)
    simp only [tot, List.length_cons, Nat.add_mul]
    omega

theorem closed_rws2 {i j e e' sz : Nat} {a b : List (List Int)} : closedH [(i, .rows e e' sz (rws a) none), (j, .rows e e' sz (rws b) none)] := by
  intro p hp
  simp at hp
  have key : ∀ c : List (List Int), ∀ xs ∈ rws c, ∀ x ∈ xs, x.clo = true := fun c xs hx x hx2 => by
    simp only [rws, List.mem_map] at hx
    obtain ⟨ns, _, rfl⟩ := hx
    obtain ⟨a, _, rfl⟩ := List.mem_map.1 hx2
    rfl
  rcases hp with rfl | rfl
  · exact key a
  · exact key b

theorem law_ExactMutantAt {s o k : Int} {nx ou : List (List Int)} (g1 : I64 s) (g2 : I64 o) (h1 : RowsOk nx) (h2 : RowsOk ou) (g3 : I64 k) : AC Try.prog 3 [mach s o nx ou, .int .i64 k] (.bool true) := by
  have e1 := laws_szMachine (s := s) (o := o) (left := 1048576) h1 h2 (by omega)
  have hok := szM_ok (nx := nx) (ou := ou) (left := 1048576) (by omega)
  generalize szM nx ou 1048576 = left at *
  obtain ⟨b1, b2, b3⟩ := hok
  by_cases hc : left < 0
  · refine ac_intro tabIs _ Try.func3 rfl rfl Try.ntmps3 rfl rfl fun w0 ok0 => ?_
    repeat (first | refine awp_seq ?_ | refine then_n ?_ | refine then_r ?_ | refine then_x ?_ | refine block_n ?_ | refine block_r ?_ | refine block_x ?_ | refine u_y ?_ | refine loop_r ?_ | refine loop_x ?_ | refine awp_region ?_ | refine awpL_nil ?_ | refine awpQL_nil ?_ | refine awp_block ?_ | refine awp_skip ?_ | refine awp_exit ?_ | refine awp_label ?_ | refine u_dT ?_ | refine u_d ?_ | ((first | apply c_l | apply c_q | apply c_lr | apply c_qr); (iterate 2 exact rfl); (focus (first | exact e1)); (iterate 2 exact rfl)) | (apply y_c; (iterate 4 exact rfl); (focus (first | exact e1)); (iterate 2 exact rfl)) | refine u_l ?_ | refine u_o ?_ | refine u_q ?_ | refine u_lr ?_ | refine u_qr ?_ | refine u_ls ?_ | refine u_qs ?_ | refine u_t ?_ | refine u_f ?_ | refine y_s ?_ | refine v_o ?_ | refine v_on ?_ | refine v_og ?_ | refine y_q ?_ | refine y_sr ?_ | refine y_k ?_ | refine m_nil ?_)
    (refine awp_ret ?_; (repeat (first | refine then_r ?_ | refine block_r ?_ | refine loop_r ?_)); apply ret_ok (.inr rfl); (focus exact rfl))
    rfl
  · obtain ⟨⟨a1, a2⟩, a3, a4⟩ := b3 (by omega)
    have a1' : nx.length ≤ 1048576 := by omega
    have a2' : ∀ ns ∈ nx, ns.length ≤ 1048576 := fun ns h => by have := a2 ns h; omega
    have a3' : ou.length ≤ 1048576 := by omega
    have a4' : ∀ ns ∈ ou, ns.length ≤ 1048576 := fun ns h => by have := a4 ns h; omega
    have t1 := laws_toMachine (s := s) (o := o) a1' a2' a3' a4'
    have t3 := laws_toMachineH (s := s) (o := o) a1' a2' a3' a4'
    have f1 := spec_MutantAt (s := s) (o := o) (k := k) h1 h2
    have f2 := impl_MutantAtH (s := s) (o := o) (k := k) h1 h2
    have f3 := impl_MutantAtH (s := s) (o := o) (k := k) h1 h2
    obtain ⟨r1, r2, ⟨r3, r4⟩, r5, r6⟩ := mutAt_small (s := s) (o := o) (k := k) (nx := nx) (ou := ou)
    have T1 := tot_boundN a2'
    have T2 := tot_boundN a4'
    have T1' : tot nx ≤ 1048576 * 1048576 := Nat.le_trans T1 (Nat.mul_le_mul_right _ a1')
    have T2' : tot ou ≤ 1048576 * 1048576 := Nat.le_trans T2 (Nat.mul_le_mul_right _ a3')
    have m1 := laws_markMachine (s := s) (o := o) (nx := nx) (ou := ou) (k := 1) (by omega) (by omega) (by omega) (by omega)
    have q3 : AC Try.prog 10 [.agg [.int .i64 s, .int .i64 o, .lst ((rws nx).map D.lst), .lst ((rws ou).map D.lst)], mach s o nx ou] (.bool true) := by
      have := laws_eqMachine (s := s) (o := o) (s' := s) (o' := o) h1 h2 h1 h2
      rw [rws_dat, rws_dat]
      simp only [decide_true, Bool.and_self, Bool.and_true] at this
      exact this
    have f3' : HC Try.prog 9 ([D.agg [.int .i64 s, .int .i64 o, .lst ((rws nx).map D.lst), .lst ((rws ou).map D.lst)], .int .i64 k].map .d) [] (.tup [.agg [.d (.int .i64 (mutAt s o nx ou k).1.1), .d (.int .i64 (mutAt s o nx ou k).1.2), .own 30000, .own 30001], .d (.int .i64 (mutAt s o nx ou k).2.2)])
      [(30000, .rows 34 2 1 (rws (mutAt s o nx ou k).2.1.1) none), (30001, .rows 34 2 1 (rws (mutAt s o nx ou k).2.1.2) none)] := by
      rw [rws_dat, rws_dat]
      exact f3
    clear f3
    generalize mutAt s o nx ou k = z at *
    obtain ⟨⟨s', o'⟩, ⟨nx', ou'⟩, c⟩ := z
    dsimp only at *
    have U1 := tot_boundN r4
    have U2 := tot_boundN r6
    have m3 := laws_markMachine (s := s') (o := o') (nx := nx') (ou := ou') (k := 1) (by omega) (by omega) (by omega) (by omega)
    have d3 := laws_heldMachine (s := s') (o := o') (nx := nx') (ou := ou') (k := 1) (by omega) (by omega) (by omega) (by omega)
    have d3' : AC Try.prog 12 [.agg [.int .i64 s', .int .i64 o', .lst ((rws (mkR 1 nx')).map D.lst), .lst ((rws (mkR (1 + tot nx') ou')).map D.lst)], .int .i64 1] (.int .i64 (1 + tot nx' + tot ou')) := by
      rw [rws_dat, rws_dat]
      exact d3
    have q1 : AC Try.prog 10 [.agg [.int .i64 s', .int .i64 o', .lst ((rws nx').map D.lst), .lst ((rws ou').map D.lst)], mach s' o' nx' ou'] (.bool true) := by
      have := laws_eqMachine (s := s') (o := o') (s' := s') (o' := o') r1 r2 r1 r2
      rw [rws_dat, rws_dat]
      simp only [decide_true, Bool.and_self, Bool.and_true] at this
      exact this
    refine ac_intro tabIs _ Try.func3 rfl rfl Try.ntmps3 rfl rfl fun w0 ok0 => ?_
    repeat (first | refine awp_seq ?_ | refine then_n ?_ | refine then_r ?_ | refine then_x ?_ | refine block_n ?_ | refine block_r ?_ | refine block_x ?_ | refine u_y ?_ | refine loop_r ?_ | refine loop_x ?_ | refine awp_region ?_ | refine awpL_nil ?_ | refine awpQL_nil ?_ | refine awp_block ?_ | refine awp_skip ?_ | refine awp_exit ?_ | refine awp_label ?_ | refine u_dT ?_ | refine u_d ?_ | ((first | apply c_l | apply c_q | apply c_lr | apply c_qr); (iterate 2 exact rfl); (focus (first | exact e1)); (iterate 2 exact rfl)) | (apply y_c; (iterate 4 exact rfl); (focus (first | exact e1)); (iterate 2 exact rfl)) | refine u_l ?_ | refine u_o ?_ | refine u_q ?_ | refine u_lr ?_ | refine u_qr ?_ | refine u_ls ?_ | refine u_qs ?_ | refine u_t ?_ | refine u_f ?_ | refine y_s ?_ | refine v_o ?_ | refine v_on ?_ | refine v_og ?_ | refine y_q ?_ | refine y_sr ?_ | refine y_k ?_ | refine m_nil ?_)
    (apply c_l; (iterate 2 exact rfl); (focus exact t1); (iterate 2 exact rfl))
    repeat (first | refine awp_seq ?_ | refine then_n ?_ | refine then_r ?_ | refine then_x ?_ | refine block_n ?_ | refine block_r ?_ | refine block_x ?_ | refine u_y ?_ | refine loop_r ?_ | refine loop_x ?_ | refine awp_region ?_ | refine awpL_nil ?_ | refine awpQL_nil ?_ | refine awp_block ?_ | refine awp_skip ?_ | refine awp_exit ?_ | refine awp_label ?_ | refine u_dT ?_ | refine u_d ?_ | ((first | apply c_l | apply c_q | apply c_lr | apply c_qr); (iterate 2 exact rfl); (focus (first | exact f1)); (iterate 2 exact rfl)) | (apply y_c; (iterate 4 exact rfl); (focus (first | exact f1)); (iterate 2 exact rfl)) | refine u_l ?_ | refine u_o ?_ | refine u_q ?_ | refine u_lr ?_ | refine u_qr ?_ | refine u_ls ?_ | refine u_qs ?_ | refine u_t ?_ | refine u_f ?_ | refine y_s ?_ | refine v_o ?_ | refine v_on ?_ | refine v_og ?_ | refine y_q ?_ | refine y_sr ?_ | refine y_k ?_ | refine m_nil ?_)
    refine hcl [] [(30000, 500), (30001, 501)] t3 ?_
    repeat (first | refine awp_seq ?_ | refine then_n ?_ | refine then_r ?_ | refine then_x ?_ | refine block_n ?_ | refine block_r ?_ | refine block_x ?_ | refine u_y ?_ | refine loop_r ?_ | refine loop_x ?_ | refine awp_region ?_ | refine awpL_nil ?_ | refine awpQL_nil ?_ | refine awp_block ?_ | refine awp_skip ?_ | refine awp_exit ?_ | refine awp_label ?_ | refine u_dT ?_ | refine u_d ?_ | refine u_l ?_ | refine u_o ?_ | refine u_q ?_ | refine u_lr ?_ | refine u_qr ?_ | refine u_ls ?_ | refine u_qs ?_ | refine u_t ?_ | refine u_f ?_ | refine y_s ?_ | refine v_o ?_ | refine v_on ?_ | refine v_og ?_ | refine y_q ?_ | refine y_sr ?_ | refine y_k ?_ | refine m_nil ?_)
    refine hlend (xs := [.agg [.int .i64 s, .int .i64 o, .lst ((rws nx).map D.lst), .lst ((rws ou).map D.lst)], .int .i64 k]) (cap := []) [(30000, 502), (30001, 503)] f3' closed_rws2 ?_ ?_
    · exact ⟨⟨rfl, rfl, trivial, trivial, trivial⟩, rfl, trivial⟩
    repeat (first | refine awp_seq ?_ | refine then_n ?_ | refine then_r ?_ | refine then_x ?_ | refine block_n ?_ | refine block_r ?_ | refine block_x ?_ | refine u_y ?_ | refine loop_r ?_ | refine loop_x ?_ | refine awp_region ?_ | refine awpL_nil ?_ | refine awpQL_nil ?_ | refine awp_block ?_ | refine awp_skip ?_ | refine awp_exit ?_ | refine awp_label ?_ | refine u_dT ?_ | refine u_d ?_ | ((first | apply c_l | apply c_q | apply c_lr | apply c_qr); (iterate 2 exact rfl); (focus (first | exact q1 | exact q3 | exact t1)); (iterate 2 exact rfl)) | (apply y_c; (iterate 4 exact rfl); (focus (first | exact q1 | exact q3 | exact t1)); (iterate 2 exact rfl)) | refine u_l ?_ | refine u_o ?_ | refine u_q ?_ | refine u_lr ?_ | refine u_qr ?_ | refine u_ls ?_ | refine u_qs ?_ | refine u_t ?_ | refine u_f ?_ | refine y_s ?_ | refine v_o ?_ | refine v_on ?_ | refine v_og ?_ | refine y_q ?_ | refine y_sr ?_ | refine y_k ?_ | refine m_nil ?_)
    refine hcl [(500, 10000), (501, 10001)] [(10000, 500), (10001, 501)] m1 ?_
    repeat (first | refine awp_seq ?_ | refine then_n ?_ | refine then_r ?_ | refine then_x ?_ | refine block_n ?_ | refine block_r ?_ | refine block_x ?_ | refine u_y ?_ | refine loop_r ?_ | refine loop_x ?_ | refine awp_region ?_ | refine awpL_nil ?_ | refine awpQL_nil ?_ | refine awp_block ?_ | refine awp_skip ?_ | refine awp_exit ?_ | refine awp_label ?_ | refine u_dT ?_ | refine u_d ?_ | ((first | apply c_l | apply c_q | apply c_lr | apply c_qr); (iterate 2 exact rfl); (focus (first | exact q1)); (iterate 2 exact rfl)) | (apply y_c; (iterate 4 exact rfl); (focus (first | exact q1)); (iterate 2 exact rfl)) | refine u_l ?_ | refine u_o ?_ | refine u_q ?_ | refine u_lr ?_ | refine u_qr ?_ | refine u_ls ?_ | refine u_qs ?_ | refine u_t ?_ | refine u_f ?_ | refine y_s ?_ | refine v_o ?_ | refine v_on ?_ | refine v_og ?_ | refine y_q ?_ | refine y_sr ?_ | refine y_k ?_ | refine m_nil ?_)
    refine hcl [(502, 10000), (503, 10001)] [(10000, 502), (10001, 503)] m3 ?_
    repeat (first | refine awp_seq ?_ | refine then_n ?_ | refine then_r ?_ | refine then_x ?_ | refine block_n ?_ | refine block_r ?_ | refine block_x ?_ | refine u_y ?_ | refine loop_r ?_ | refine loop_x ?_ | refine awp_region ?_ | refine awpL_nil ?_ | refine awpQL_nil ?_ | refine awp_block ?_ | refine awp_skip ?_ | refine awp_exit ?_ | refine awp_label ?_ | refine u_dT ?_ | refine u_d ?_ | ((first | apply c_l | apply c_q | apply c_lr | apply c_qr); (iterate 2 exact rfl); (focus (first | exact d3')); (iterate 2 exact rfl)) | (apply y_c; (iterate 4 exact rfl); (focus (first | exact d3')); (iterate 2 exact rfl)) | refine u_l ?_ | refine u_o ?_ | refine u_q ?_ | refine u_lr ?_ | refine u_qr ?_ | refine u_ls ?_ | refine u_qs ?_ | refine u_t ?_ | refine u_f ?_ | refine y_s ?_ | refine v_o ?_ | refine v_on ?_ | refine v_og ?_ | refine y_q ?_ | refine y_sr ?_ | refine y_k ?_ | refine m_nil ?_)
    (apply c_l; (iterate 2 exact rfl); (focus exact t1); (iterate 2 exact rfl))
    repeat (first | refine awp_seq ?_ | refine then_n ?_ | refine then_r ?_ | refine then_x ?_ | refine block_n ?_ | refine block_r ?_ | refine block_x ?_ | refine u_y ?_ | refine loop_r ?_ | refine loop_x ?_ | refine awp_region ?_ | refine awpL_nil ?_ | refine awpQL_nil ?_ | refine awp_block ?_ | refine awp_skip ?_ | refine awp_exit ?_ | refine awp_label ?_ | refine u_dT ?_ | refine u_d ?_ | refine u_l ?_ | refine u_o ?_ | refine u_q ?_ | refine u_lr ?_ | refine u_qr ?_ | refine u_ls ?_ | refine u_qs ?_ | refine u_t ?_ | refine u_f ?_ | refine y_s ?_ | refine v_o ?_ | refine v_on ?_ | refine v_og ?_ | refine y_q ?_ | refine y_sr ?_ | refine y_k ?_ | refine m_nil ?_)
    refine hcl [] [(30000, 504), (30001, 505)] f2 ?_
    repeat (first | refine awp_seq ?_ | refine then_n ?_ | refine then_r ?_ | refine then_x ?_ | refine block_n ?_ | refine block_r ?_ | refine block_x ?_ | refine u_y ?_ | refine loop_r ?_ | refine loop_x ?_ | refine awp_region ?_ | refine awpL_nil ?_ | refine awpQL_nil ?_ | refine awp_block ?_ | refine awp_skip ?_ | refine awp_exit ?_ | refine awp_label ?_ | refine u_dT ?_ | refine u_d ?_ | ((first | apply c_l | apply c_q | apply c_lr | apply c_qr); (iterate 2 exact rfl); (focus (first | exact q1 | exact d3')); (iterate 2 exact rfl)) | (apply y_c; (iterate 4 exact rfl); (focus (first | exact q1 | exact d3')); (iterate 2 exact rfl)) | refine u_l ?_ | refine u_o ?_ | refine u_q ?_ | refine u_lr ?_ | refine u_qr ?_ | refine u_ls ?_ | refine u_qs ?_ | refine u_t ?_ | refine u_f ?_ | refine y_s ?_ | refine v_o ?_ | refine v_on ?_ | refine v_og ?_ | refine y_q ?_ | refine y_sr ?_ | refine y_k ?_ | refine m_nil ?_)
    (refine awp_ret ?_; (repeat (first | refine then_r ?_ | refine block_r ?_ | refine loop_r ?_)); apply ret_ok (.inr rfl); (focus exact rfl))
    rfl

end Go.Proofs.Ytiiiipddgfnbmaa
