/- StateCover in the program, and its law. No condition. -/
import Derived.Test.YtkaffmojojnhhaaId
import Derived.Test.YtkaffmojojnhhaaTc
namespace Go.Proofs.Ytkaffmojojnhhaa
open Go
attribute [local irreducible] awp awpL awpQL awpQ awpM pWalk Qt AC thenQ blockQ loopQ OpTo
set_option linter.unusedVariables false
set_option linter.unusedSimpArgs false
set_option maxHeartbeats 2000000
attribute [local irreducible] HC HX

theorem impl_StateCover {s o : Int} {nx ou : List (List Int)} (h1 : RowsOk nx) (h2 : RowsOk ou) :
    HC Try.prog 34 [.d (mach s o nx ou)] [] (.tup [.own 30000, .d (.int .i64 (scD s o nx ou).2)]) [(30000, .rows 26 2 1 (rws (scD s o nx ou).1) none)] := by
  have e1 := impl_ValidMachine (s := s) (o := o) h1 h2
  unfold scD
  by_cases hv : machOk s o nx ou = true
  · rw [if_pos hv]
    rw [hv] at e1
    have e2 := impl_cover (mv_of hv)
    by_cases hc : ((covL nx).length : Int) < s
    · rw [if_pos hc]
      rw [decide_eq_true hc] at e2
      unfold mach at *
      refine hc_intro tabIs _ Try.func34 rfl rfl Try.ntmps34 rfl rfl rfl ?_ fun w0 ok0 XM XA anc => ?_
      · exact likeIn_nil
      repeat (first | refine awp_seq ?_ | refine then_n ?_ | refine then_r ?_ | refine then_x ?_ | refine block_n ?_ | refine block_r ?_ | refine block_x ?_ | refine u_y ?_ | refine loop_r ?_ | refine loop_x ?_ | refine awp_region ?_ | refine awpL_nil ?_ | refine awpQL_nil ?_ | refine awp_block ?_ | refine awp_skip ?_ | refine awp_exit ?_ | refine awp_label ?_ | refine u_dT ?_ | refine u_d ?_ | ((first | apply c_l | apply c_q | apply c_lr | apply c_qr); (iterate 2 exact rfl); (focus (first | exact e1)); (iterate 2 exact rfl)) | (apply v_c; (iterate 4 exact rfl); (focus (first | exact e1)); (iterate 2 exact rfl)) | refine u_l ?_ | refine u_o ?_ | refine u_q ?_ | refine u_lr ?_ | refine u_qr ?_ | refine u_ls ?_ | refine u_qs ?_ | refine u_t ?_ | refine u_f ?_ | refine v_s ?_ | refine v_o ?_ | refine v_on ?_ | refine v_og ?_ | refine v_q ?_ | refine v_sr ?_ | refine v_k ?_ | refine m_nil ?_)
      refine hcl [] [(30000, 500)] e2 ?_
      repeat (first | refine awp_seq ?_ | refine then_n ?_ | refine then_r ?_ | refine then_x ?_ | refine block_n ?_ | refine block_r ?_ | refine block_x ?_ | refine u_y ?_ | refine loop_r ?_ | refine loop_x ?_ | refine awp_region ?_ | refine awpL_nil ?_ | refine awpQL_nil ?_ | refine awp_block ?_ | refine awp_skip ?_ | refine awp_exit ?_ | refine awp_label ?_ | refine u_dT ?_ | refine u_d ?_ | refine u_l ?_ | refine u_o ?_ | refine u_q ?_ | refine u_lr ?_ | refine u_qr ?_ | refine u_ls ?_ | refine u_qs ?_ | refine u_t ?_ | refine u_f ?_ | refine v_s ?_ | refine v_o ?_ | refine v_on ?_ | refine v_og ?_ | refine v_q ?_ | refine v_sr ?_ | refine v_k ?_ | refine m_nil ?_)
      refine awp_nilSlot 2 300 26 1 rfl rfl rfl ?_
      refine awp_toRows 300 2 1 rfl rfl rfl rfl ?_
      (refine awp_ret ?_; (repeat (first | refine then_r ?_ | refine block_r ?_ | refine loop_r ?_)); refine u_rH [(300, 30000)] ?_ ?_)
      · rfl
      · rfl
    · rw [if_neg hc]
      rw [decide_eq_false hc] at e2
      unfold mach at *
      refine hc_intro tabIs _ Try.func34 rfl rfl Try.ntmps34 rfl rfl rfl ?_ fun w0 ok0 XM XA anc => ?_
      · exact likeIn_nil
      repeat (first | refine awp_seq ?_ | refine then_n ?_ | refine then_r ?_ | refine then_x ?_ | refine block_n ?_ | refine block_r ?_ | refine block_x ?_ | refine u_y ?_ | refine loop_r ?_ | refine loop_x ?_ | refine awp_region ?_ | refine awpL_nil ?_ | refine awpQL_nil ?_ | refine awp_block ?_ | refine awp_skip ?_ | refine awp_exit ?_ | refine awp_label ?_ | refine u_dT ?_ | refine u_d ?_ | ((first | apply c_l | apply c_q | apply c_lr | apply c_qr); (iterate 2 exact rfl); (focus (first | exact e1)); (iterate 2 exact rfl)) | (apply v_c; (iterate 4 exact rfl); (focus (first | exact e1)); (iterate 2 exact rfl)) | refine u_l ?_ | refine u_o ?_ | refine u_q ?_ | refine u_lr ?_ | refine u_qr ?_ | refine u_ls ?_ | refine u_qs ?_ | refine u_t ?_ | refine u_f ?_ | refine v_s ?_ | refine v_o ?_ | refine v_on ?_ | refine v_og ?_ | refine v_q ?_ | refine v_sr ?_ | refine v_k ?_ | refine m_nil ?_)
      refine hcl [] [(30000, 500)] e2 ?_
      repeat (first | refine awp_seq ?_ | refine then_n ?_ | refine then_r ?_ | refine then_x ?_ | refine block_n ?_ | refine block_r ?_ | refine block_x ?_ | refine u_y ?_ | refine loop_r ?_ | refine loop_x ?_ | refine awp_region ?_ | refine awpL_nil ?_ | refine awpQL_nil ?_ | refine awp_block ?_ | refine awp_skip ?_ | refine awp_exit ?_ | refine awp_label ?_ | refine u_dT ?_ | refine u_d ?_ | refine u_l ?_ | refine u_o ?_ | refine u_q ?_ | refine u_lr ?_ | refine u_qr ?_ | refine u_ls ?_ | refine u_qs ?_ | refine u_t ?_ | refine u_f ?_ | refine v_s ?_ | refine v_o ?_ | refine v_on ?_ | refine v_og ?_ | refine v_q ?_ | refine v_sr ?_ | refine v_k ?_ | refine m_nil ?_)
      (refine awp_ret ?_; (repeat (first | refine then_r ?_ | refine block_r ?_ | refine loop_r ?_)); refine u_rH [(500, 30000)] ?_ ?_)
      · rfl
      · rfl
  · rw [if_neg hv]
    rw [Bool.not_eq_true] at hv
    rw [hv] at e1
    unfold mach at *
    refine hc_intro tabIs _ Try.func34 rfl rfl Try.ntmps34 rfl rfl rfl ?_ fun w0 ok0 XM XA anc => ?_
    · exact likeIn_nil
    repeat (first | refine awp_seq ?_ | refine then_n ?_ | refine then_r ?_ | refine then_x ?_ | refine block_n ?_ | refine block_r ?_ | refine block_x ?_ | refine u_y ?_ | refine loop_r ?_ | refine loop_x ?_ | refine awp_region ?_ | refine awpL_nil ?_ | refine awpQL_nil ?_ | refine awp_block ?_ | refine awp_skip ?_ | refine awp_exit ?_ | refine awp_label ?_ | refine u_dT ?_ | refine u_d ?_ | ((first | apply c_l | apply c_q | apply c_lr | apply c_qr); (iterate 2 exact rfl); (focus (first | exact e1)); (iterate 2 exact rfl)) | (apply v_c; (iterate 4 exact rfl); (focus (first | exact e1)); (iterate 2 exact rfl)) | refine u_l ?_ | refine u_o ?_ | refine u_q ?_ | refine u_lr ?_ | refine u_qr ?_ | refine u_ls ?_ | refine u_qs ?_ | refine u_t ?_ | refine u_f ?_ | refine v_s ?_ | refine v_o ?_ | refine v_on ?_ | refine v_og ?_ | refine v_q ?_ | refine v_sr ?_ | refine v_k ?_ | refine m_nil ?_)
    refine awp_nilSlot 2 300 26 1 rfl rfl rfl ?_
    refine awp_toRows 300 2 1 rfl rfl rfl rfl ?_
    (refine awp_ret ?_; (repeat (first | refine then_r ?_ | refine block_r ?_ | refine loop_r ?_)); refine u_rH [(300, 30000)] ?_ ?_)
    · rfl
    · rfl

theorem scD_len {s o : Int} {nx ou : List (List Int)} : (scD s o nx ou).1.length ≤ 400 ∧ (∀ w ∈ (scD s o nx ou).1, w.length ≤ 400) ∧ RowsOk (scD s o nx ou).1 := by
  have h0 : ([] : List (List Int)).length ≤ 400 ∧ (∀ w ∈ ([] : List (List Int)), w.length ≤ 400) ∧ RowsOk [] := ⟨by simp, (fun w h => absurd h (by simp)), ⟨(fun w h => absurd h (by simp)), by simp⟩⟩
  unfold scD
  split
  · split
    · exact h0
    · rename_i hv _
      have m := mv_of hv
      have hs := m.s1
      have hn := m.n1
      have hok : COk s nx.length (covL nx) := lstC_ok m 10
      have hl := hok.len hs
      have key : ∀ w ∈ cvR (covL nx) s.toNat, w.length ≤ 10 ∧ ∀ l ∈ w, 0 ≤ l ∧ l < (nx.length : Int) := fun w hw => by
        obtain ⟨q, -, rfl⟩ := List.mem_map.1 hw
        by_cases hq : q ∈ (covL nx).map (·.1)
        · obtain ⟨p, hp, rfl⟩ := List.mem_map.1 hq
          obtain ⟨j, hj, ej⟩ := List.getElem_of_mem hp
          have hLj : (covL nx)[j]? = some p := by rw [List.getElem?_eq_getElem hj, ej]
          rw [cvW_at hok.nd hLj]
          have := hok.wl p hp
          exact ⟨by omega, hok.el p hp⟩
        · rw [cvW_none hq]
          exact ⟨by simp, fun l h => absurd h (by simp)⟩
      have hc : (cvR (covL nx) s.toNat).length = s.toNat := by simp [cvR]
      refine ⟨by rw [hc]; omega, fun w hw => by have := (key w hw).1; omega, ⟨fun w hw => ⟨fun l hl => ?_, by have := (key w hw).1; omega⟩, by rw [hc]; omega⟩⟩
      have := (key w hw).2 l hl
      unfold I64
      omega
  · exact h0

theorem law_ExactStateCover {s o : Int} {nx ou : List (List Int)} (g1 : I64 s) (g2 : I64 o) (h1 : RowsOk nx) (h2 : RowsOk ou) : AC Try.prog 6 [mach s o nx ou] (.bool true) := by
  have e1 := laws_szMachine (s := s) (o := o) (left := 1048576) h1 h2 (by omega)
  have hok := szM_ok (nx := nx) (ou := ou) (left := 1048576) (by omega)
  generalize szM nx ou 1048576 = left1 at *
  obtain ⟨b1, b2, b3⟩ := hok
  by_cases hc : left1 < 0
  · unfold mach at *
    refine ac_intro tabIs _ Try.func6 rfl rfl Try.ntmps6 rfl rfl fun w0 ok0 => ?_
    repeat (first | refine awp_seq ?_ | refine then_n ?_ | refine then_r ?_ | refine then_x ?_ | refine block_n ?_ | refine block_r ?_ | refine block_x ?_ | refine u_y ?_ | refine loop_r ?_ | refine loop_x ?_ | refine awp_region ?_ | refine awpL_nil ?_ | refine awpQL_nil ?_ | refine awp_block ?_ | refine awp_skip ?_ | refine awp_exit ?_ | refine awp_label ?_ | refine u_dT ?_ | refine u_d ?_ | ((first | apply c_l | apply c_q | apply c_lr | apply c_qr); (iterate 2 exact rfl); (focus (first | exact e1)); (iterate 2 exact rfl)) | (apply v_c; (iterate 4 exact rfl); (focus (first | exact e1)); (iterate 2 exact rfl)) | refine u_l ?_ | refine u_o ?_ | refine u_q ?_ | refine u_lr ?_ | refine u_qr ?_ | refine u_ls ?_ | refine u_qs ?_ | refine u_t ?_ | refine u_f ?_ | refine v_s ?_ | refine v_o ?_ | refine v_on ?_ | refine v_og ?_ | refine v_q ?_ | refine v_sr ?_ | refine v_k ?_ | refine m_nil ?_)
    (refine awp_ret ?_; (repeat (first | refine then_r ?_ | refine block_r ?_ | refine loop_r ?_)); apply ret_ok (.inr rfl); (focus exact rfl))
    rfl
  · obtain ⟨⟨a1, a2⟩, a3, a4⟩ := b3 (by omega)
    have a1' : nx.length ≤ 1048576 := by omega
    have a2' : ∀ ns ∈ nx, ns.length ≤ 1048576 := fun ns h => by have := a2 ns h; omega
    have a3' : ou.length ≤ 1048576 := by omega
    have a4' : ∀ ns ∈ ou, ns.length ≤ 1048576 := fun ns h => by have := a4 ns h; omega
    have t1 := laws_toMachine (s := s) (o := o) a1' a2' a3' a4'
    have t3 := laws_toMachineH (s := s) (o := o) a1' a2' a3' a4'
    have f1 := spec_StateCover (s := s) (o := o) h1 h2
    have f2 := impl_StateCover (s := s) (o := o) h1 h2
    have hbl := scD_len (s := s) (o := o) (nx := nx) (ou := ou)
    have T1 := tot_boundN a2'
    have T2 := tot_boundN a4'
    have T1' : tot nx ≤ 1048576 * 1048576 := Nat.le_trans T1 (Nat.mul_le_mul_right _ a1')
    have T2' : tot ou ≤ 1048576 * 1048576 := Nat.le_trans T2 (Nat.mul_le_mul_right _ a3')
    have m1 := laws_markMachine (s := s) (o := o) (nx := nx) (ou := ou) (k := 1) (by omega) (by omega) (by omega) (by omega)
    have f3' : HC Try.prog 34 ([D.agg [.int .i64 s, .int .i64 o, .lst ((rws nx).map D.lst), .lst ((rws ou).map D.lst)]].map .d) [] (.tup [.own 30000, .d (.int .i64 (scD s o nx ou).2)]) [(30000, .rows 26 2 1 (rws (scD s o nx ou).1) none)] := by
      rw [rws_dat, rws_dat]
      exact f2
    generalize scD s o nx ou = z at *
    obtain ⟨r1, r2, r3⟩ := hbl
    have hto := tot_boundN r2
    have hto2 : tot z.1 ≤ 400 * 400 := Nat.le_trans hto (Nat.mul_le_mul_right _ r1)
    have m3 := laws_markInt64SS (nss := z.1) (k := 1) (by omega) (by omega) (by omega)
    have d3 := laws_heldInt64SS (nss := z.1) (k := 1) (by omega) (by omega) (by omega)
    rw [← rws_dat] at d3
    have q1 : AC Try.prog 35 [.lst ((rws z.1).map D.lst), rows z.1] (.bool true) := by have := laws_eqInt64SS (a := z.1) (b := z.1) r3 r3; rw [rws_dat]; simpa using this
    have q3 : AC Try.prog 13 [.agg [.int .i64 s, .int .i64 o, .lst ((rws nx).map D.lst), .lst ((rws ou).map D.lst)], mach s o nx ou] (.bool true) := by
      have := laws_eqMachine (s := s) (o := o) (s' := s) (o' := o) h1 h2 h1 h2
      rw [rws_dat, rws_dat]
      simp only [decide_true, Bool.and_self, Bool.and_true] at this
      exact this
    refine ac_intro tabIs _ Try.func6 rfl rfl Try.ntmps6 rfl rfl fun w0 ok0 => ?_
    repeat (first | refine awp_seq ?_ | refine then_n ?_ | refine then_r ?_ | refine then_x ?_ | refine block_n ?_ | refine block_r ?_ | refine block_x ?_ | refine u_y ?_ | refine loop_r ?_ | refine loop_x ?_ | refine awp_region ?_ | refine awpL_nil ?_ | refine awpQL_nil ?_ | refine awp_block ?_ | refine awp_skip ?_ | refine awp_exit ?_ | refine awp_label ?_ | refine u_dT ?_ | refine u_d ?_ | ((first | apply c_l | apply c_q | apply c_lr | apply c_qr); (iterate 2 exact rfl); (focus (first | exact e1)); (iterate 2 exact rfl)) | (apply v_c; (iterate 4 exact rfl); (focus (first | exact e1)); (iterate 2 exact rfl)) | refine u_l ?_ | refine u_o ?_ | refine u_q ?_ | refine u_lr ?_ | refine u_qr ?_ | refine u_ls ?_ | refine u_qs ?_ | refine u_t ?_ | refine u_f ?_ | refine v_s ?_ | refine v_o ?_ | refine v_on ?_ | refine v_og ?_ | refine v_q ?_ | refine v_sr ?_ | refine v_k ?_ | refine m_nil ?_)
    (apply c_l; (iterate 2 exact rfl); (focus exact t1); (iterate 2 exact rfl))
    repeat (first | refine awp_seq ?_ | refine then_n ?_ | refine then_r ?_ | refine then_x ?_ | refine block_n ?_ | refine block_r ?_ | refine block_x ?_ | refine u_y ?_ | refine loop_r ?_ | refine loop_x ?_ | refine awp_region ?_ | refine awpL_nil ?_ | refine awpQL_nil ?_ | refine awp_block ?_ | refine awp_skip ?_ | refine awp_exit ?_ | refine awp_label ?_ | refine u_dT ?_ | refine u_d ?_ | ((first | apply c_l | apply c_q | apply c_lr | apply c_qr); (iterate 2 exact rfl); (focus (first | exact f1)); (iterate 2 exact rfl)) | (apply v_c; (iterate 4 exact rfl); (focus (first | exact f1)); (iterate 2 exact rfl)) | refine u_l ?_ | refine u_o ?_ | refine u_q ?_ | refine u_lr ?_ | refine u_qr ?_ | refine u_ls ?_ | refine u_qs ?_ | refine u_t ?_ | refine u_f ?_ | refine v_s ?_ | refine v_o ?_ | refine v_on ?_ | refine v_og ?_ | refine v_q ?_ | refine v_sr ?_ | refine v_k ?_ | refine m_nil ?_)
    refine hcl [] [(30000, 500), (30001, 501)] t3 ?_
    repeat (first | refine awp_seq ?_ | refine then_n ?_ | refine then_r ?_ | refine then_x ?_ | refine block_n ?_ | refine block_r ?_ | refine block_x ?_ | refine u_y ?_ | refine loop_r ?_ | refine loop_x ?_ | refine awp_region ?_ | refine awpL_nil ?_ | refine awpQL_nil ?_ | refine awp_block ?_ | refine awp_skip ?_ | refine awp_exit ?_ | refine awp_label ?_ | refine u_dT ?_ | refine u_d ?_ | refine u_l ?_ | refine u_o ?_ | refine u_q ?_ | refine u_lr ?_ | refine u_qr ?_ | refine u_ls ?_ | refine u_qs ?_ | refine u_t ?_ | refine u_f ?_ | refine v_s ?_ | refine v_o ?_ | refine v_on ?_ | refine v_og ?_ | refine v_q ?_ | refine v_sr ?_ | refine v_k ?_ | refine m_nil ?_)
    refine hlend (xs := [.agg [.int .i64 s, .int .i64 o, .lst ((rws nx).map D.lst), .lst ((rws ou).map D.lst)]]) (cap := []) [(30000, 503)] f3' ?_ ?_ ?_
    · intro p hp
      simp at hp
      subst hp
      intro xs hx x hx2
      simp only [rws, List.mem_map] at hx
      obtain ⟨ns, _, rfl⟩ := hx
      obtain ⟨a, _, rfl⟩ := List.mem_map.1 hx2
      rfl
    · exact ⟨trivial, rfl, trivial⟩
    repeat (first | refine awp_seq ?_ | refine then_n ?_ | refine then_r ?_ | refine then_x ?_ | refine block_n ?_ | refine block_r ?_ | refine block_x ?_ | refine u_y ?_ | refine loop_r ?_ | refine loop_x ?_ | refine awp_region ?_ | refine awpL_nil ?_ | refine awpQL_nil ?_ | refine awp_block ?_ | refine awp_skip ?_ | refine awp_exit ?_ | refine awp_label ?_ | refine u_dT ?_ | refine u_d ?_ | ((first | apply c_l | apply c_q | apply c_lr | apply c_qr); (iterate 2 exact rfl); (focus (first | exact q1 | exact q3 | exact t1)); (iterate 2 exact rfl)) | (apply v_c; (iterate 4 exact rfl); (focus (first | exact q1 | exact q3 | exact t1)); (iterate 2 exact rfl)) | refine u_l ?_ | refine u_o ?_ | refine u_q ?_ | refine u_lr ?_ | refine u_qr ?_ | refine u_ls ?_ | refine u_qs ?_ | refine u_t ?_ | refine u_f ?_ | refine v_s ?_ | refine v_o ?_ | refine v_on ?_ | refine v_og ?_ | refine v_q ?_ | refine v_sr ?_ | refine v_k ?_ | refine m_nil ?_)
    refine hcl [(500, 10000), (501, 10001)] [(10000, 500), (10001, 501)] m1 ?_
    repeat (first | refine awp_seq ?_ | refine then_n ?_ | refine then_r ?_ | refine then_x ?_ | refine block_n ?_ | refine block_r ?_ | refine block_x ?_ | refine u_y ?_ | refine loop_r ?_ | refine loop_x ?_ | refine awp_region ?_ | refine awpL_nil ?_ | refine awpQL_nil ?_ | refine awp_block ?_ | refine awp_skip ?_ | refine awp_exit ?_ | refine awp_label ?_ | refine u_dT ?_ | refine u_d ?_ | ((first | apply c_l | apply c_q | apply c_lr | apply c_qr); (iterate 2 exact rfl); (focus (first | exact q1)); (iterate 2 exact rfl)) | (apply v_c; (iterate 4 exact rfl); (focus (first | exact q1)); (iterate 2 exact rfl)) | refine u_l ?_ | refine u_o ?_ | refine u_q ?_ | refine u_lr ?_ | refine u_qr ?_ | refine u_ls ?_ | refine u_qs ?_ | refine u_t ?_ | refine u_f ?_ | refine v_s ?_ | refine v_o ?_ | refine v_on ?_ | refine v_og ?_ | refine v_q ?_ | refine v_sr ?_ | refine v_k ?_ | refine m_nil ?_)
    refine hcl [(503, 10000)] [(10000, 503)] m3 ?_
    repeat (first | refine awp_seq ?_ | refine then_n ?_ | refine then_r ?_ | refine then_x ?_ | refine block_n ?_ | refine block_r ?_ | refine block_x ?_ | refine u_y ?_ | refine loop_r ?_ | refine loop_x ?_ | refine awp_region ?_ | refine awpL_nil ?_ | refine awpQL_nil ?_ | refine awp_block ?_ | refine awp_skip ?_ | refine awp_exit ?_ | refine awp_label ?_ | refine u_dT ?_ | refine u_d ?_ | ((first | apply c_l | apply c_q | apply c_lr | apply c_qr); (iterate 2 exact rfl); (focus (first | exact d3)); (iterate 2 exact rfl)) | (apply v_c; (iterate 4 exact rfl); (focus (first | exact d3)); (iterate 2 exact rfl)) | refine u_l ?_ | refine u_o ?_ | refine u_q ?_ | refine u_lr ?_ | refine u_qr ?_ | refine u_ls ?_ | refine u_qs ?_ | refine u_t ?_ | refine u_f ?_ | refine v_s ?_ | refine v_o ?_ | refine v_on ?_ | refine v_og ?_ | refine v_q ?_ | refine v_sr ?_ | refine v_k ?_ | refine m_nil ?_)
    (apply c_l; (iterate 2 exact rfl); (focus exact t1); (iterate 2 exact rfl))
    repeat (first | refine awp_seq ?_ | refine then_n ?_ | refine then_r ?_ | refine then_x ?_ | refine block_n ?_ | refine block_r ?_ | refine block_x ?_ | refine u_y ?_ | refine loop_r ?_ | refine loop_x ?_ | refine awp_region ?_ | refine awpL_nil ?_ | refine awpQL_nil ?_ | refine awp_block ?_ | refine awp_skip ?_ | refine awp_exit ?_ | refine awp_label ?_ | refine u_dT ?_ | refine u_d ?_ | refine u_l ?_ | refine u_o ?_ | refine u_q ?_ | refine u_lr ?_ | refine u_qr ?_ | refine u_ls ?_ | refine u_qs ?_ | refine u_t ?_ | refine u_f ?_ | refine v_s ?_ | refine v_o ?_ | refine v_on ?_ | refine v_og ?_ | refine v_q ?_ | refine v_sr ?_ | refine v_k ?_ | refine m_nil ?_)
    refine hcl [] [(30000, 504)] f2 ?_
    repeat (first | refine awp_seq ?_ | refine then_n ?_ | refine then_r ?_ | refine then_x ?_ | refine block_n ?_ | refine block_r ?_ | refine block_x ?_ | refine u_y ?_ | refine loop_r ?_ | refine loop_x ?_ | refine awp_region ?_ | refine awpL_nil ?_ | refine awpQL_nil ?_ | refine awp_block ?_ | refine awp_skip ?_ | refine awp_exit ?_ | refine awp_label ?_ | refine u_dT ?_ | refine u_d ?_ | ((first | apply c_l | apply c_q | apply c_lr | apply c_qr); (iterate 2 exact rfl); (focus (first | exact q1 | exact d3)); (iterate 2 exact rfl)) | (apply v_c; (iterate 4 exact rfl); (focus (first | exact q1 | exact d3)); (iterate 2 exact rfl)) | refine u_l ?_ | refine u_o ?_ | refine u_q ?_ | refine u_lr ?_ | refine u_qr ?_ | refine u_ls ?_ | refine u_qs ?_ | refine u_t ?_ | refine u_f ?_ | refine v_s ?_ | refine v_o ?_ | refine v_on ?_ | refine v_og ?_ | refine v_q ?_ | refine v_sr ?_ | refine v_k ?_ | refine m_nil ?_)
    (refine awp_ret ?_; (repeat (first | refine then_r ?_ | refine block_r ?_ | refine loop_r ?_)); apply ret_ok (.inr rfl); (focus exact rfl))
    rfl
end Go.Proofs.Ytkaffmojojnhhaa
