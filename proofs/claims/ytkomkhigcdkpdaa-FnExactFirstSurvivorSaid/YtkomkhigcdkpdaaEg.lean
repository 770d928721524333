/- FirstSurvivor, in the reference and in the program, and its law. No condition. -/
import Derived.Test.YtkomkhigcdkpdaaEd
namespace Go.Proofs.Ytkomkhigcdkpdaa
open Go
attribute [local irreducible] awp awpL awpQL awpQ awpM pWalk Qt AC thenQ blockQ loopQ OpTo
set_option linter.unusedVariables false
set_option linter.unusedSimpArgs false
set_option maxHeartbeats 2000000
attribute [local irreducible] HC

/-- Does the machine with a number pass, and is it not equivalent? -/
noncomputable def hitB (o : Int) (nx ou ws : List (List Int)) (n k : Nat) : Bool :=
  decide ((failS nx ou (numX n o nx.length k).1 (numX n o nx.length k).2 0 ws).1 < 0) && (apR nx ou (numX n o nx.length k).1 (numX n o nx.length k).2).2
/-- The first machine that does. -/
structure Fst (o : Int) (nx ou ws : List (List Int)) (st : Nat) (r : Option (Nat × Nat)) : Prop where
  no : r = none → ∀ n, 1 ≤ n → n ≤ st → ∀ k : Nat, (k : Int) < cntM n o nx.length → hitB o nx ou ws n k = false
  yes : ∀ n k, r = some (n, k) → (1 ≤ n ∧ n ≤ st ∧ (k : Int) < cntM n o nx.length ∧ hitB o nx ou ws n k = true) ∧ (∀ k', k' < k → hitB o nx ou ws n k' = false) ∧ ∀ n', 1 ≤ n' → n' < n → ∀ k : Nat, (k : Int) < cntM n' o nx.length → hitB o nx ou ws n' k = false
theorem fst_ex (o : Int) (nx ou ws : List (List Int)) (st : Nat) : ∃ r, Fst o nx ou ws st r := by
  by_cases h : ∃ n, (1 ≤ n ∧ n ≤ st) ∧ ∃ k : Nat, (k : Int) < cntM n o nx.length ∧ hitB o nx ou ws n k = true
  · obtain ⟨n, hn, hk⟩ := h
    obtain ⟨n0, h1, ⟨h2, k, h3⟩, h4⟩ := firstEx (P := fun n => (1 ≤ n ∧ n ≤ st) ∧ ∃ k : Nat, (k : Int) < cntM n o nx.length ∧ hitB o nx ou ws n k = true) n ⟨hn, hk⟩
    obtain ⟨k0, k1, k2, k3⟩ := firstEx (P := fun k => (k : Int) < cntM n0 o nx.length ∧ hitB o nx ou ws n0 k = true) k h3
    refine ⟨some (n0, k0), (fun e => by cases e), fun n' k' e => ?_⟩
    cases e
    refine ⟨⟨h2.1, h2.2, k2.1, k2.2⟩, fun k' hk' => ?_, fun n' a b k' hk' => ?_⟩
    · cases hb : hitB o nx ou ws n0 k' with
      | false => rfl
      | true => exact absurd ⟨by omega, hb⟩ (k3 k' hk')
    · cases hb : hitB o nx ou ws n' k' with
      | false => rfl
      | true => exact absurd ⟨⟨a, by omega⟩, k', hk', hb⟩ (h4 n' b)
  · refine ⟨none, fun _ n a b k hk => ?_, (fun n k e => by cases e)⟩
    cases hb : hitB o nx ou ws n k with
    | false => rfl
    | true => exact absurd ⟨n, ⟨a, b⟩, k, hk, hb⟩ h
/-- Before this place nothing has been found. -/
theorem fst_hit {o : Int} {nx ou ws : List (List Int)} {st n k : Nat} {r : Option (Nat × Nat)} (h : Fst o nx ou ws st r) (h1 : 1 ≤ n ∧ n ≤ st) (h2 : (k : Int) < cntM n o nx.length) (h3 : hitB o nx ou ws n k = true) (h4 : ∀ k', k' < k → hitB o nx ou ws n k' = false) (h5 : ∀ n', 1 ≤ n' → n' < n → ∀ k : Nat, (k : Int) < cntM n' o nx.length → hitB o nx ou ws n' k = false) : r = some (n, k) := by
  cases r with
  | none => have := h.no rfl n h1.1 h1.2 k h2; rw [h3] at this; cases this
  | some p =>
    obtain ⟨n', k'⟩ := p
    obtain ⟨⟨a1, a2, a3, a4⟩, a5, a6⟩ := h.yes n' k' rfl
    have hn : n = n' := by
      rcases Nat.lt_trichotomy n n' with hh | hh | hh
      · have := a6 n h1.1 hh k h2; rw [h3] at this; cases this
      · exact hh
      · have := h5 n' a1 hh k' a3; rw [a4] at this; cases this
    subst hn
    have hk : k = k' := by
      rcases Nat.lt_trichotomy k k' with hh | hh | hh
      · have := a5 k hh; rw [h3] at this; cases this
      · exact hh
      · have := h4 k' hh; rw [a4] at this; cases this
    subst hk
    rfl
theorem fst_none {o : Int} {nx ou ws : List (List Int)} {st : Nat} {r : Option (Nat × Nat)} (h : Fst o nx ou ws st r) (h5 : ∀ n', 1 ≤ n' → n' ≤ st → ∀ k : Nat, (k : Int) < cntM n' o nx.length → hitB o nx ou ws n' k = false) : r = none := by
  cases r with
  | none => rfl
  | some p =>
    obtain ⟨n', k'⟩ := p
    obtain ⟨⟨a1, a2, a3, a4⟩, _⟩ := h.yes n' k' rfl
    have := h5 n' a1 a2 k' a3; rw [a4] at this; cases this

/-- What FirstSurvivor answers. -/
noncomputable def fsD (s o : Int) (nx ou ws : List (List Int)) (st : Int) : (Int × Int) × (List (List Int) × List (List Int)) × Int :=
  if machOk s o nx ou then
    (if suiteOk nx.length ws && inB st 1 10 then
      (if 50000 < cntM st o nx.length then ((0, 0), ([], []), 3) else
        match Classical.choose (fst_ex o nx ou ws st.toNat) with
        | none => ((0, 0), ([], []), 6)
        | some p => (((p.1 : Int), o), numX p.1 o nx.length p.2, 0))
    else ((0, 0), ([], []), 2))
  else ((0, 0), ([], []), 1)

theorem impl_FirstSurvivor1 {s o st : Int} {nx ou ws : List (List Int)} (h1 : RowsOk nx) (h3 : RowsOk ws) : AC Try.prog 88 [.ptr (mach s o nx ou), .ptr (rows ws), .ptr (.int .i64 st)] (.bool (suiteOk nx.length ws && inB st 1 10)) := by
  have e1 := impl_isSuite (s := s) (o := o) (nx := nx) (ou := ou) (ws := ws) h1.2 h3
  have e2 := impl_within (n := st) (lo := 1) (hi := 10)
  cases hb : suiteOk nx.length ws
  · rw [hb] at e1
    refine ac_intro tabIs _ Try.func88 rfl rfl Try.ntmps88 rfl rfl fun w0 ok0 => ?_
    repeat (first | refine awp_seq ?_ | refine then_n ?_ | refine then_r ?_ | refine then_x ?_ | refine block_n ?_ | refine block_r ?_ | refine block_x ?_ | refine u_y ?_ | refine loop_r ?_ | refine loop_x ?_ | refine awp_region ?_ | refine awpL_nil ?_ | refine awpQL_nil ?_ | refine awp_block ?_ | refine awp_skip ?_ | refine awp_exit ?_ | refine awp_label ?_ | refine u_dT ?_ | refine u_d ?_ | ((first | apply c_l | apply c_q | apply c_lr | apply c_qr); (iterate 2 exact rfl); (focus (first | exact e1 | exact e2)); (iterate 2 exact rfl)) | (apply v_c; (iterate 4 exact rfl); (focus (first | exact e1 | exact e2)); (iterate 2 exact rfl)) | refine u_l ?_ | refine u_o ?_ | refine u_q ?_ | refine u_lr ?_ | refine u_qr ?_ | refine u_ls ?_ | refine u_qs ?_ | refine u_t ?_ | refine u_f ?_ | refine v_s ?_ | refine v_o ?_ | refine v_on ?_ | refine v_og ?_ | refine v_q ?_ | refine v_sr ?_ | refine v_k ?_ | refine m_nil ?_)
    (refine awp_ret ?_; (repeat (first | refine then_r ?_ | refine block_r ?_ | refine loop_r ?_)); apply ret_ok (.inr rfl); (focus exact rfl))
    rfl
  · rw [hb] at e1
    refine ac_intro tabIs _ Try.func88 rfl rfl Try.ntmps88 rfl rfl fun w0 ok0 => ?_
    repeat (first | refine awp_seq ?_ | refine then_n ?_ | refine then_r ?_ | refine then_x ?_ | refine block_n ?_ | refine block_r ?_ | refine block_x ?_ | refine u_y ?_ | refine loop_r ?_ | refine loop_x ?_ | refine awp_region ?_ | refine awpL_nil ?_ | refine awpQL_nil ?_ | refine awp_block ?_ | refine awp_skip ?_ | refine awp_exit ?_ | refine awp_label ?_ | refine u_dT ?_ | refine u_d ?_ | ((first | apply c_l | apply c_q | apply c_lr | apply c_qr); (iterate 2 exact rfl); (focus (first | exact e1 | exact e2)); (iterate 2 exact rfl)) | (apply v_c; (iterate 4 exact rfl); (focus (first | exact e1 | exact e2)); (iterate 2 exact rfl)) | refine u_l ?_ | refine u_o ?_ | refine u_q ?_ | refine u_lr ?_ | refine u_qr ?_ | refine u_ls ?_ | refine u_qs ?_ | refine u_t ?_ | refine u_f ?_ | refine v_s ?_ | refine v_o ?_ | refine v_on ?_ | refine v_og ?_ | refine v_q ?_ | refine v_sr ?_ | refine v_k ?_ | refine m_nil ?_)
    (refine awp_ret ?_; (repeat (first | refine then_r ?_ | refine block_r ?_ | refine loop_r ?_)); apply ret_ok (.inr rfl); (focus exact rfl))
    rfl

theorem spec_FirstSurvivor {s o st : Int} {nx ou ws : List (List Int)} (h1 : RowsOk nx) (h2 : RowsOk ou) (h3 : RowsOk ws) :
    AC Try.prog 39 [mach s o nx ou, rows ws, .int .i64 st] (.tup [mach (fsD s o nx ou ws st).1.1 (fsD s o nx ou ws st).1.2 (fsD s o nx ou ws st).2.1.1 (fsD s o nx ou ws st).2.1.2, .int .i64 (fsD s o nx ou ws st).2.2]) := by
  have e1 := spec_l07Given (s := s) (o := o) h1 h2 h3
  unfold fsD
  by_cases hv : machOk s o nx ou = true
  · rw [if_pos hv] at e1 ⊢
    by_cases hr : suiteOk nx.length ws = true
    · rw [if_pos hr] at e1
      obtain ⟨q1, q2⟩ := suite_of hr
      have m := mv_of hv
      have hL := m.n1
      have ho := m.o1
      have e2 := spec_l00In (n := st) (lo := 1) (hi := 10)
      cases hst : inB st 1 10
      · rw [hst] at e2
        rw [if_neg (by simp)]
        refine ac_introC tabIs _ Try.func39 rfl rfl Try.ntmps39 rfl rfl fun w0 ok0 => ?_
        repeat (first | refine awp_seq ?_ | refine then_n ?_ | refine then_r ?_ | refine then_x ?_ | refine block_n ?_ | refine block_r ?_ | refine block_x ?_ | refine u_y ?_ | refine loop_r ?_ | refine loop_x ?_ | refine awp_region ?_ | refine awpL_nil ?_ | refine awpQL_nil ?_ | refine awp_block ?_ | refine awp_skip ?_ | refine awp_exit ?_ | refine awp_label ?_ | refine u_dT ?_ | refine u_d ?_ | ((first | apply c_l | apply c_q | apply c_lr | apply c_qr); (iterate 2 exact rfl); (focus (first | exact e1 | exact e2)); (iterate 2 exact rfl)) | (apply v_c; (iterate 4 exact rfl); (focus (first | exact e1 | exact e2)); (iterate 2 exact rfl)) | refine u_l ?_ | refine u_o ?_ | refine u_q ?_ | refine u_lr ?_ | refine u_qr ?_ | refine u_ls ?_ | refine u_qs ?_ | refine u_t ?_ | refine u_f ?_ | refine v_s ?_ | refine v_o ?_ | refine v_on ?_ | refine v_og ?_ | refine v_q ?_ | refine v_sr ?_ | refine v_k ?_ | refine m_nil ?_)
        refine awp_nilCell 6 2 300 25 1 (by exact rfl) (by exact rfl) rfl rfl rfl ?_
        refine awp_nilCell 6 3 301 25 1 (by exact rfl) (by exact rfl) rfl rfl rfl ?_
        refine awp_freeze 300 rfl rfl ?_
        refine awp_freeze 301 rfl rfl ?_
        (refine awp_ret ?_; (repeat (first | refine then_r ?_ | refine block_r ?_ | refine loop_r ?_)); apply ret_okC (.inr rfl); (focus exact rfl))
        rfl
      · rw [hst] at e2
        rw [hr, if_pos (by simp)]
        have hb := inB_iff.1 hst
        have e3 := spec_l07Machines m (n := st) hb
        by_cases hc : 50000 < cntM st o nx.length
        · rw [if_pos hc]
          refine ac_introC tabIs _ Try.func39 rfl rfl Try.ntmps39 rfl rfl fun w0 ok0 => ?_
          repeat (first | refine awp_seq ?_ | refine then_n ?_ | refine then_r ?_ | refine then_x ?_ | refine block_n ?_ | refine block_r ?_ | refine block_x ?_ | refine u_y ?_ | refine loop_r ?_ | refine loop_x ?_ | refine awp_region ?_ | refine awpL_nil ?_ | refine awpQL_nil ?_ | refine awp_block ?_ | refine awp_skip ?_ | refine awp_exit ?_ | refine awp_label ?_ | refine u_dT ?_ | refine u_d ?_ | ((first | apply c_l | apply c_q | apply c_lr | apply c_qr); (iterate 2 exact rfl); (focus (first | exact e1 | exact e2 | exact e3)); (iterate 2 exact rfl)) | (apply v_c; (iterate 4 exact rfl); (focus (first | exact e1 | exact e2 | exact e3)); (iterate 2 exact rfl)) | refine u_l ?_ | refine u_o ?_ | refine u_q ?_ | refine u_lr ?_ | refine u_qr ?_ | refine u_ls ?_ | refine u_qs ?_ | refine u_t ?_ | refine u_f ?_ | refine v_s ?_ | refine v_o ?_ | refine v_on ?_ | refine v_og ?_ | refine v_q ?_ | refine v_sr ?_ | refine v_k ?_ | refine m_nil ?_)
          refine awp_nilCell 6 2 300 25 1 (by exact rfl) (by exact rfl) rfl rfl rfl ?_
          refine awp_nilCell 6 3 301 25 1 (by exact rfl) (by exact rfl) rfl rfl rfl ?_
          refine awp_freeze 300 rfl rfl ?_
          refine awp_freeze 301 rfl rfl ?_
          (refine awp_ret ?_; (repeat (first | refine then_r ?_ | refine block_r ?_ | refine loop_r ?_)); apply ret_okC (.inr rfl); (focus exact rfl))
          rfl
        · rw [if_neg hc]
          have hF := Classical.choose_spec (fst_ex o nx ou ws st.toNat)
          generalize Classical.choose (fst_ex o nx ou ws st.toNat) = r at *
          have hcr : ∀ n : Nat, 1 ≤ n → n ≤ 10 → 1 ≤ cntM n o nx.length ∧ cntM n o nx.length ≤ 1500000 := fun n a b => capC_range (no_range (n := (n : Int)) (by omega) ho) _
          have hmc : ∀ n : Nat, 1 ≤ n → n ≤ 10 → AC Try.prog 85 [.ptr (mach s o nx ou), .int .i64 n] (.int .i64 (cntM n o nx.length)) := fun n a b => spec_l07Machines m (n := (n : Int)) (by omega)
          have hnu : ∀ n k : Nat, 1 ≤ n → n ≤ 10 → (k : Int) ≤ 1500000 → AC Try.prog 86 [.ptr (mach s o nx ou), .int .i64 n, .int .i64 k] (mach n o (numX n o nx.length k).1 (numX n o nx.length k).2) := fun n k a b c => spec_l07Numbered m ⟨a, b⟩ (by omega)
          have hmv : ∀ n k : Nat, 1 ≤ n → n ≤ 10 → MV n o (numX n o nx.length k).1 (numX n o nx.length k).2 ∧ (numX n o nx.length k).1.length = nx.length := fun n k a b => ⟨mv_num ⟨a, b⟩ ho hL (by omega), by simp [numX]⟩
          have hfa : ∀ n k : Nat, 1 ≤ n → n ≤ 10 → AC Try.prog 87 [.ptr (mach s o nx ou), .ptr (mach n o (numX n o nx.length k).1 (numX n o nx.length k).2), rows ws] (.tup [.int .i64 (failR (failS nx ou (numX n o nx.length k).1 (numX n o nx.length k).2 0 ws)).1, .int .i64 (failR (failS nx ou (numX n o nx.length k).1 (numX n o nx.length k).2 0 ws)).2]) := fun n k a b => spec_l07Failing m (hmv n k a b).1 (hmv n k a b).2 q1 q2
          have hdi : ∀ n k : Nat, 1 ≤ n → n ≤ 10 → AC Try.prog 81 [.ptr (mach s o nx ou), .ptr (mach n o (numX n o nx.length k).1 (numX n o nx.length k).2)] (.tup [ints (apR nx ou (numX n o nx.length k).1 (numX n o nx.length k).2).1, .bool (apR nx ou (numX n o nx.length k).1 (numX n o nx.length k).2).2]) := fun n k a b => spec_DifferR m (hmv n k a b).1 (hmv n k a b).2
          have hhit : ∀ n k, hitB o nx ou ws n k = (decide ((failS nx ou (numX n o nx.length k).1 (numX n o nx.length k).2 0 ws).1 < 0) && (apR nx ou (numX n o nx.length k).1 (numX n o nx.length k).2).2) := fun _ _ => rfl
          have hfh := fun n k a b c d e => fst_hit (n := n) (k := k) hF a b c d e
          have hfn := fun h => fst_none hF h
          have hcc := hcr
          generalize cntM st o nx.length = cst at *
          refine ac_introC tabIs _ Try.func39 rfl rfl Try.ntmps39 rfl rfl fun w0 ok0 => ?_
          repeat (first | refine awp_seq ?_ | refine then_n ?_ | refine then_r ?_ | refine then_x ?_ | refine block_n ?_ | refine block_r ?_ | refine block_x ?_ | refine u_y ?_ | refine loop_r ?_ | refine loop_x ?_ | refine awp_region ?_ | refine awpL_nil ?_ | refine awpQL_nil ?_ | refine awp_block ?_ | refine awp_skip ?_ | refine awp_exit ?_ | refine awp_label ?_ | refine u_dT ?_ | refine u_d ?_ | ((first | apply c_l | apply c_q | apply c_lr | apply c_qr); (iterate 2 exact rfl); (focus (first | exact e1 | exact e2 | exact e3)); (iterate 2 exact rfl)) | (apply v_c; (iterate 4 exact rfl); (focus (first | exact e1 | exact e2 | exact e3)); (iterate 2 exact rfl)) | refine u_l ?_ | refine u_o ?_ | refine u_q ?_ | refine u_lr ?_ | refine u_qr ?_ | refine u_ls ?_ | refine u_qs ?_ | refine u_t ?_ | refine u_f ?_ | refine v_s ?_ | refine v_o ?_ | refine v_on ?_ | refine v_og ?_ | refine v_q ?_ | refine v_sr ?_ | refine v_k ?_ | refine m_nil ?_)
          refine awp_loop (fun n : Nat => 1 ≤ n ∧ n ≤ st.toNat + 1 ∧ ∀ n', 1 ≤ n' → n' < n → ∀ k : Nat, (k : Int) < cntM n' o nx.length → hitB o nx ou ws n' k = false) (fun n => [(1, .d (rows ws)), (2, .d (.int .i64 st)), (3, .d (.ptr (mach s o nx ou))), (6, .ref 6 0), (9, .d (.int .i64 n))]) (fun _ => [(6, .box [.d (.int .i64 0), .d (.int .i64 0), .d .nils, .d .nils])]) (fun n => st.toNat + 1 - n) 1 (by exact ⟨by omega, by omega, fun n' a b => by omega⟩) ?_ rfl ?_
          · ((repeat (first | exact trivial | (refine ⟨?_, ?_⟩; (focus (first | rfl | (simp [lk, argsS, args0]; done) | (simp [lk, argsS, args0]; omega)))))))
          · rintro n ⟨hn1, hn2, hno⟩
            by_cases hns : (n : Int) ≤ st
            · have e4 := hmc n hn1 (by omega)
              have hcn := hcc n hn1 (by omega)
              have hfhn := fun k => hfh n k ⟨hn1, by omega⟩
              have hnext : (∀ k : Nat, (k : Int) < cntM n o nx.length → hitB o nx ou ws n k = false) → ∀ n', 1 ≤ n' → n' < n + 1 → ∀ k : Nat, (k : Int) < cntM n' o nx.length → hitB o nx ou ws n' k = false := fun hh n' a b k hk => by
                by_cases e : n' = n
                · subst e; exact hh k hk
                · exact hno n' a (by omega) k hk
              generalize hC : cntM n o nx.length = C at *
              repeat (first | refine awp_seq ?_ | refine then_n ?_ | refine then_r ?_ | refine then_x ?_ | refine block_n ?_ | refine block_r ?_ | refine block_x ?_ | refine u_y ?_ | refine loop_r ?_ | refine loop_x ?_ | refine awp_region ?_ | refine awpL_nil ?_ | refine awpQL_nil ?_ | refine awp_block ?_ | refine awp_skip ?_ | refine awp_exit ?_ | refine awp_label ?_ | refine u_dT ?_ | refine u_d ?_ | refine u_l ?_ | refine u_o ?_ | refine u_q ?_ | refine u_lr ?_ | refine u_qr ?_ | refine u_ls ?_ | refine u_qs ?_ | refine u_t ?_ | refine u_f ?_ | refine v_s ?_ | refine v_o ?_ | refine v_on ?_ | refine v_og ?_ | refine v_q ?_ | refine v_sr ?_ | refine v_k ?_ | refine m_nil ?_)
              refine awp_loop (fun k : Nat => (k : Int) ≤ C ∧ ∀ k', k' < k → hitB o nx ou ws n k' = false) (fun k => [(1, .d (rows ws)), (2, .d (.int .i64 st)), (3, .d (.ptr (mach s o nx ou))), (6, .ref 6 0), (9, .d (.int .i64 n)), (10, .d (.int .i64 k))]) (fun _ => [(6, .box [.d (.int .i64 0), .d (.int .i64 0), .d .nils, .d .nils])]) (fun k => C.toNat - k) 0 (by exact ⟨by omega, fun k' h => by omega⟩) ?_ rfl ?_
              · ((repeat (first | exact trivial | (refine ⟨?_, ?_⟩; (focus (first | rfl | (simp [lk, argsS, args0]; done) | (simp [lk, argsS, args0]; omega)))))))
              · rintro k ⟨hk, hkno⟩
                by_cases hkl : (k : Int) < C
                · have e5 := hnu n k hn1 (by omega) (by omega)
                  have e6 := hfa n k hn1 (by omega)
                  have e7 := hdi n k hn1 (by omega)
                  have hh := hhit n k
                  have hge := failR_ge (failS nx ou (numX n o nx.length k).1 (numX n o nx.length k).2 0 ws)
                  have hgo := fun h => hfhn k hkl h hkno hno
                  generalize failS nx ou (numX n o nx.length k).1 (numX n o nx.length k).2 0 ws = p at *
                  generalize failR p = p' at *
                  generalize apR nx ou (numX n o nx.length k).1 (numX n o nx.length k).2 = A at *
                  by_cases hp : 0 ≤ p'.1
                  · have hp2 := hge.1 hp
                    have hf : hitB o nx ou ws n k = false := by rw [hh, decide_eq_false (by omega), Bool.false_and]
                    generalize numX n o nx.length k = X at *
                    repeat (first | refine awp_seq ?_ | refine then_n ?_ | refine then_r ?_ | refine then_x ?_ | refine block_n ?_ | refine block_r ?_ | refine block_x ?_ | refine u_y ?_ | refine loop_r ?_ | refine loop_x ?_ | refine awp_region ?_ | refine awpL_nil ?_ | refine awpQL_nil ?_ | refine awp_block ?_ | refine awp_skip ?_ | refine awp_exit ?_ | refine awp_label ?_ | refine u_dT ?_ | refine u_d ?_ | ((first | apply c_l | apply c_q | apply c_lr | apply c_qr); (iterate 2 exact rfl); (focus (first | exact e4 | exact e5)); (iterate 2 exact rfl)) | (apply v_c; (iterate 4 exact rfl); (focus (first | exact e4 | exact e5)); (iterate 2 exact rfl)) | refine u_l ?_ | refine u_o ?_ | refine u_q ?_ | refine u_lr ?_ | refine u_qr ?_ | refine u_ls ?_ | refine u_qs ?_ | refine u_t ?_ | refine u_f ?_ | refine v_s ?_ | refine v_o ?_ | refine v_on ?_ | refine v_og ?_ | refine v_q ?_ | refine v_sr ?_ | refine v_k ?_ | refine m_nil ?_)
                    refine awpL_freezeB 11 rfl rfl rfl ?_
                    repeat (first | refine awp_seq ?_ | refine then_n ?_ | refine then_r ?_ | refine then_x ?_ | refine block_n ?_ | refine block_r ?_ | refine block_x ?_ | refine u_y ?_ | refine loop_r ?_ | refine loop_x ?_ | refine awp_region ?_ | refine awpL_nil ?_ | refine awpQL_nil ?_ | refine awp_block ?_ | refine awp_skip ?_ | refine awp_exit ?_ | refine awp_label ?_ | refine u_dT ?_ | refine u_d ?_ | ((first | apply c_l | apply c_q | apply c_lr | apply c_qr); (iterate 2 exact rfl); (focus (first | exact e6)); (iterate 2 exact rfl)) | (apply v_c; (iterate 4 exact rfl); (focus (first | exact e6)); (iterate 2 exact rfl)) | refine u_l ?_ | refine u_o ?_ | refine u_q ?_ | refine u_lr ?_ | refine u_qr ?_ | refine u_ls ?_ | refine u_qs ?_ | refine u_t ?_ | refine u_f ?_ | refine v_s ?_ | refine v_o ?_ | refine v_on ?_ | refine v_og ?_ | refine v_q ?_ | refine v_sr ?_ | refine v_k ?_ | refine m_nil ?_)
                    refine loop_n (k + 1) ⟨by omega, fun k' hk' => ?_⟩ ?_ rfl (by omega)
                    · by_cases e : k' = k
                      · subst e; exact hf
                      · exact hkno k' (by omega)
                    · ((repeat (first | exact trivial | (refine ⟨?_, ?_⟩; (focus (first | rfl | (simp [lk, argsS, args0]; done) | (simp [lk, argsS, args0]; omega)))))))
                  · have hp2 : p.1 < 0 := by
                      by_cases h : p.1 < 0
                      · exact h
                      · exact absurd (hge.2 (by omega)) hp
                    rw [decide_eq_true hp2, Bool.true_and] at hh
                    cases hA : A.2
                    · rw [hA] at e7 hh
                      generalize numX n o nx.length k = X at *
                      repeat (first | refine awp_seq ?_ | refine then_n ?_ | refine then_r ?_ | refine then_x ?_ | refine block_n ?_ | refine block_r ?_ | refine block_x ?_ | refine u_y ?_ | refine loop_r ?_ | refine loop_x ?_ | refine awp_region ?_ | refine awpL_nil ?_ | refine awpQL_nil ?_ | refine awp_block ?_ | refine awp_skip ?_ | refine awp_exit ?_ | refine awp_label ?_ | refine u_dT ?_ | refine u_d ?_ | ((first | apply c_l | apply c_q | apply c_lr | apply c_qr); (iterate 2 exact rfl); (focus (first | exact e4 | exact e5)); (iterate 2 exact rfl)) | (apply v_c; (iterate 4 exact rfl); (focus (first | exact e4 | exact e5)); (iterate 2 exact rfl)) | refine u_l ?_ | refine u_o ?_ | refine u_q ?_ | refine u_lr ?_ | refine u_qr ?_ | refine u_ls ?_ | refine u_qs ?_ | refine u_t ?_ | refine u_f ?_ | refine v_s ?_ | refine v_o ?_ | refine v_on ?_ | refine v_og ?_ | refine v_q ?_ | refine v_sr ?_ | refine v_k ?_ | refine m_nil ?_)
                      refine awpL_freezeB 11 rfl rfl rfl ?_
                      repeat (first | refine awp_seq ?_ | refine then_n ?_ | refine then_r ?_ | refine then_x ?_ | refine block_n ?_ | refine block_r ?_ | refine block_x ?_ | refine u_y ?_ | refine loop_r ?_ | refine loop_x ?_ | refine awp_region ?_ | refine awpL_nil ?_ | refine awpQL_nil ?_ | refine awp_block ?_ | refine awp_skip ?_ | refine awp_exit ?_ | refine awp_label ?_ | refine u_dT ?_ | refine u_d ?_ | ((first | apply c_l | apply c_q | apply c_lr | apply c_qr); (iterate 2 exact rfl); (focus (first | exact e6 | exact e7)); (iterate 2 exact rfl)) | (apply v_c; (iterate 4 exact rfl); (focus (first | exact e6 | exact e7)); (iterate 2 exact rfl)) | refine u_l ?_ | refine u_o ?_ | refine u_q ?_ | refine u_lr ?_ | refine u_qr ?_ | refine u_ls ?_ | refine u_qs ?_ | refine u_t ?_ | refine u_f ?_ | refine v_s ?_ | refine v_o ?_ | refine v_on ?_ | refine v_og ?_ | refine v_q ?_ | refine v_sr ?_ | refine v_k ?_ | refine m_nil ?_)
                      refine loop_n (k + 1) ⟨by omega, fun k' hk' => ?_⟩ ?_ rfl (by omega)
                      · by_cases e : k' = k
                        · subst e; exact hh
                        · exact hkno k' (by omega)
                      · ((repeat (first | exact trivial | (refine ⟨?_, ?_⟩; (focus (first | rfl | (simp [lk, argsS, args0]; done) | (simp [lk, argsS, args0]; omega)))))))
                    · rw [hA] at e7 hh
                      have hr' := hgo hh
                      subst hr'
                      simp only []
                      generalize numX n o nx.length k = X at *
                      repeat (first | refine awp_seq ?_ | refine then_n ?_ | refine then_r ?_ | refine then_x ?_ | refine block_n ?_ | refine block_r ?_ | refine block_x ?_ | refine u_y ?_ | refine loop_r ?_ | refine loop_x ?_ | refine awp_region ?_ | refine awpL_nil ?_ | refine awpQL_nil ?_ | refine awp_block ?_ | refine awp_skip ?_ | refine awp_exit ?_ | refine awp_label ?_ | refine u_dT ?_ | refine u_d ?_ | ((first | apply c_l | apply c_q | apply c_lr | apply c_qr); (iterate 2 exact rfl); (focus (first | exact e4 | exact e5)); (iterate 2 exact rfl)) | (apply v_c; (iterate 4 exact rfl); (focus (first | exact e4 | exact e5)); (iterate 2 exact rfl)) | refine u_l ?_ | refine u_o ?_ | refine u_q ?_ | refine u_lr ?_ | refine u_qr ?_ | refine u_ls ?_ | refine u_qs ?_ | refine u_t ?_ | refine u_f ?_ | refine v_s ?_ | refine v_o ?_ | refine v_on ?_ | refine v_og ?_ | refine v_q ?_ | refine v_sr ?_ | refine v_k ?_ | refine m_nil ?_)
                      refine awpL_freezeB 11 rfl rfl rfl ?_
                      repeat (first | refine awp_seq ?_ | refine then_n ?_ | refine then_r ?_ | refine then_x ?_ | refine block_n ?_ | refine block_r ?_ | refine block_x ?_ | refine u_y ?_ | refine loop_r ?_ | refine loop_x ?_ | refine awp_region ?_ | refine awpL_nil ?_ | refine awpQL_nil ?_ | refine awp_block ?_ | refine awp_skip ?_ | refine awp_exit ?_ | refine awp_label ?_ | refine u_dT ?_ | refine u_d ?_ | ((first | apply c_l | apply c_q | apply c_lr | apply c_qr); (iterate 2 exact rfl); (focus (first | exact e6 | exact e7)); (iterate 2 exact rfl)) | (apply v_c; (iterate 4 exact rfl); (focus (first | exact e6 | exact e7)); (iterate 2 exact rfl)) | refine u_l ?_ | refine u_o ?_ | refine u_q ?_ | refine u_lr ?_ | refine u_qr ?_ | refine u_ls ?_ | refine u_qs ?_ | refine u_t ?_ | refine u_f ?_ | refine v_s ?_ | refine v_o ?_ | refine v_on ?_ | refine v_og ?_ | refine v_q ?_ | refine v_sr ?_ | refine v_k ?_ | refine m_nil ?_)
                      (refine awp_ret ?_; (repeat (first | refine then_r ?_ | refine block_r ?_ | refine loop_r ?_)); apply ret_okC (.inr rfl); (focus exact rfl))
                      rfl
                · have hkC : k = C.toNat := by omega
                  subst hkC
                  repeat (first | refine awp_seq ?_ | refine then_n ?_ | refine then_r ?_ | refine then_x ?_ | refine block_n ?_ | refine block_r ?_ | refine block_x ?_ | refine u_y ?_ | refine loop_r ?_ | refine loop_x ?_ | refine awp_region ?_ | refine awpL_nil ?_ | refine awpQL_nil ?_ | refine awp_block ?_ | refine awp_skip ?_ | refine awp_exit ?_ | refine awp_label ?_ | refine u_dT ?_ | refine u_d ?_ | ((first | apply c_l | apply c_q | apply c_lr | apply c_qr); (iterate 2 exact rfl); (focus (first | exact e4)); (iterate 2 exact rfl)) | (apply v_c; (iterate 4 exact rfl); (focus (first | exact e4)); (iterate 2 exact rfl)) | refine u_l ?_ | refine u_o ?_ | refine u_q ?_ | refine u_lr ?_ | refine u_qr ?_ | refine u_ls ?_ | refine u_qs ?_ | refine u_t ?_ | refine u_f ?_ | refine v_s ?_ | refine v_o ?_ | refine v_on ?_ | refine v_og ?_ | refine v_q ?_ | refine v_sr ?_ | refine v_k ?_ | refine m_nil ?_)
                  refine loop_n (n + 1) ⟨by omega, by omega, hnext fun k hk => hkno k (by omega)⟩ ?_ rfl (by omega)
                  ((repeat (first | exact trivial | (refine ⟨?_, ?_⟩; (focus (first | rfl | (simp [lk, argsS, args0]; done) | (simp [lk, argsS, args0]; omega)))))))
            · have hr' := hfn fun n' a b k hk => hno n' a (by omega) k hk
              subst hr'
              repeat (first | refine awp_seq ?_ | refine then_n ?_ | refine then_r ?_ | refine then_x ?_ | refine block_n ?_ | refine block_r ?_ | refine block_x ?_ | refine u_y ?_ | refine loop_r ?_ | refine loop_x ?_ | refine awp_region ?_ | refine awpL_nil ?_ | refine awpQL_nil ?_ | refine awp_block ?_ | refine awp_skip ?_ | refine awp_exit ?_ | refine awp_label ?_ | refine u_dT ?_ | refine u_d ?_ | refine u_l ?_ | refine u_o ?_ | refine u_q ?_ | refine u_lr ?_ | refine u_qr ?_ | refine u_ls ?_ | refine u_qs ?_ | refine u_t ?_ | refine u_f ?_ | refine v_s ?_ | refine v_o ?_ | refine v_on ?_ | refine v_og ?_ | refine v_q ?_ | refine v_sr ?_ | refine v_k ?_ | refine m_nil ?_)
              refine awp_nilCell 6 2 300 25 1 (by exact rfl) (by exact rfl) rfl rfl rfl ?_
              refine awp_nilCell 6 3 301 25 1 (by exact rfl) (by exact rfl) rfl rfl rfl ?_
              refine awp_freeze 300 rfl rfl ?_
              refine awp_freeze 301 rfl rfl ?_
              (refine awp_ret ?_; (repeat (first | refine then_r ?_ | refine block_r ?_ | refine loop_r ?_)); apply ret_okC (.inr rfl); (focus exact rfl))
              rfl
    · rw [if_neg hr] at e1
      have hr' : suiteOk nx.length ws = false := by simpa using hr
      rw [hr', if_neg (by simp)]
      refine ac_introC tabIs _ Try.func39 rfl rfl Try.ntmps39 rfl rfl fun w0 ok0 => ?_
      repeat (first | refine awp_seq ?_ | refine then_n ?_ | refine then_r ?_ | refine then_x ?_ | refine block_n ?_ | refine block_r ?_ | refine block_x ?_ | refine u_y ?_ | refine loop_r ?_ | refine loop_x ?_ | refine awp_region ?_ | refine awpL_nil ?_ | refine awpQL_nil ?_ | refine awp_block ?_ | refine awp_skip ?_ | refine awp_exit ?_ | refine awp_label ?_ | refine u_dT ?_ | refine u_d ?_ | ((first | apply c_l | apply c_q | apply c_lr | apply c_qr); (iterate 2 exact rfl); (focus (first | exact e1)); (iterate 2 exact rfl)) | (apply v_c; (iterate 4 exact rfl); (focus (first | exact e1)); (iterate 2 exact rfl)) | refine u_l ?_ | refine u_o ?_ | refine u_q ?_ | refine u_lr ?_ | refine u_qr ?_ | refine u_ls ?_ | refine u_qs ?_ | refine u_t ?_ | refine u_f ?_ | refine v_s ?_ | refine v_o ?_ | refine v_on ?_ | refine v_og ?_ | refine v_q ?_ | refine v_sr ?_ | refine v_k ?_ | refine m_nil ?_)
      refine awp_nilCell 6 2 300 25 1 (by exact rfl) (by exact rfl) rfl rfl rfl ?_
      refine awp_nilCell 6 3 301 25 1 (by exact rfl) (by exact rfl) rfl rfl rfl ?_
      refine awp_freeze 300 rfl rfl ?_
      refine awp_freeze 301 rfl rfl ?_
      (refine awp_ret ?_; (repeat (first | refine then_r ?_ | refine block_r ?_ | refine loop_r ?_)); apply ret_okC (.inr rfl); (focus exact rfl))
      rfl
  · rw [if_neg hv] at e1 ⊢
    refine ac_introC tabIs _ Try.func39 rfl rfl Try.ntmps39 rfl rfl fun w0 ok0 => ?_
    repeat (first | refine awp_seq ?_ | refine then_n ?_ | refine then_r ?_ | refine then_x ?_ | refine block_n ?_ | refine block_r ?_ | refine block_x ?_ | refine u_y ?_ | refine loop_r ?_ | refine loop_x ?_ | refine awp_region ?_ | refine awpL_nil ?_ | refine awpQL_nil ?_ | refine awp_block ?_ | refine awp_skip ?_ | refine awp_exit ?_ | refine awp_label ?_ | refine u_dT ?_ | refine u_d ?_ | ((first | apply c_l | apply c_q | apply c_lr | apply c_qr); (iterate 2 exact rfl); (focus (first | exact e1)); (iterate 2 exact rfl)) | (apply v_c; (iterate 4 exact rfl); (focus (first | exact e1)); (iterate 2 exact rfl)) | refine u_l ?_ | refine u_o ?_ | refine u_q ?_ | refine u_lr ?_ | refine u_qr ?_ | refine u_ls ?_ | refine u_qs ?_ | refine u_t ?_ | refine u_f ?_ | refine v_s ?_ | refine v_o ?_ | refine v_on ?_ | refine v_og ?_ | refine v_q ?_ | refine v_sr ?_ | refine v_k ?_ | refine m_nil ?_)
    refine awp_nilCell 6 2 300 25 1 (by exact rfl) (by exact rfl) rfl rfl rfl ?_
    refine awp_nilCell 6 3 301 25 1 (by exact rfl) (by exact rfl) rfl rfl rfl ?_
    refine awp_freeze 300 rfl rfl ?_
    refine awp_freeze 301 rfl rfl ?_
    (refine awp_ret ?_; (repeat (first | refine then_r ?_ | refine block_r ?_ | refine loop_r ?_)); apply ret_okC (.inr rfl); (focus exact rfl))
    rfl

theorem impl_apartRH {s o s' o' : Int} {nx ou nx' ou' : List (List Int)} (m : MV s o nx ou) (m' : MV s' o' nx' ou') (he : nx'.length = nx.length) : HC Try.prog 83 [.d (mach s o nx ou), .d (.agg [.int .i64 s', .int .i64 o', .lst ((rws nx').map D.lst), .lst ((rws ou').map D.lst)]), .d (.int .i64 0), .d (.int .i64 0)] [] (.tup [.own 30000, .d (.bool (apR nx ou nx' ou').2)]) [(30000, .arr 2 1 ((apR nx ou nx' ou').1.map (.int .i64)))] := by
  obtain ⟨I, h1, h2⟩ := apR_srch m m' he
  have := impl_apartH m m' he h2 (by omega)
  rw [rws_dat, rws_dat]
  exact this

theorem impl_FirstSurvivorH {s o st : Int} {nx ou ws : List (List Int)} (h1 : RowsOk nx) (h2 : RowsOk ou) (h3 : RowsOk ws) :
    HC Try.prog 40 [.d (mach s o nx ou), .d (rows ws), .d (.int .i64 st)] [] (.tup [.agg [.d (.int .i64 (fsD s o nx ou ws st).1.1), .d (.int .i64 (fsD s o nx ou ws st).1.2), .own 30000, .own 30001], .d (.int .i64 (fsD s o nx ou ws st).2.2)])
      [(30000, .rows 25 2 1 (rws (fsD s o nx ou ws st).2.1.1) none), (30001, .rows 25 2 1 (rws (fsD s o nx ou ws st).2.1.2) none)] := by
  have e1 := impl_code (s := s) (o := o) (g := 88) (cap := [.ptr (mach s o nx ou), .ptr (rows ws), .ptr (.int .i64 st)]) h1 h2 fun _ => impl_FirstSurvivor1 h1 h3
  unfold fsD
  by_cases hv : machOk s o nx ou = true
  · rw [if_pos hv] at e1 ⊢
    by_cases hr : (suiteOk nx.length ws && inB st 1 10) = true
    · rw [if_pos hr] at e1 ⊢
      rw [Bool.and_eq_true] at hr
      obtain ⟨q1, q2⟩ := suite_of hr.1
      have m := mv_of hv
      have hL := m.n1
      have ho := m.o1
      have hb := inB_iff.1 hr.2
      have e3 := impl_count m (n := st) hb
      by_cases hc : 50000 < cntM st o nx.length
      · rw [if_pos hc]
        refine hc_intro tabIs _ Try.func40 rfl rfl Try.ntmps40 rfl rfl rfl ?_ fun w0 ok0 XM XA anc => ?_
        · exact likeIn_nil
        repeat (first | refine awp_seq ?_ | refine then_n ?_ | refine then_r ?_ | refine then_x ?_ | refine block_n ?_ | refine block_r ?_ | refine block_x ?_ | refine u_y ?_ | refine loop_r ?_ | refine loop_x ?_ | refine awp_region ?_ | refine awpL_nil ?_ | refine awpQL_nil ?_ | refine awp_block ?_ | refine awp_skip ?_ | refine awp_exit ?_ | refine awp_label ?_ | refine u_dT ?_ | refine u_d ?_ | ((first | apply c_l | apply c_q | apply c_lr | apply c_qr); (iterate 2 exact rfl); (focus (first | exact e1 | exact e3)); (iterate 2 exact rfl)) | (apply v_c; (iterate 4 exact rfl); (focus (first | exact e1 | exact e3)); (iterate 2 exact rfl)) | refine u_l ?_ | refine u_o ?_ | refine u_q ?_ | refine u_lr ?_ | refine u_qr ?_ | refine u_ls ?_ | refine u_qs ?_ | refine u_t ?_ | refine u_f ?_ | refine v_s ?_ | refine v_o ?_ | refine v_on ?_ | refine v_og ?_ | refine v_q ?_ | refine v_sr ?_ | refine v_k ?_ | refine m_nil ?_)
        refine awp_nilCell 6 2 300 25 1 (by exact rfl) (by exact rfl) rfl rfl rfl ?_
        refine awp_toRows 300 2 1 rfl rfl rfl rfl ?_
        refine awp_nilCell 6 3 301 25 1 (by exact rfl) (by exact rfl) rfl rfl rfl ?_
        refine awp_toRows 301 2 1 rfl rfl rfl rfl ?_
        (refine awp_ret ?_; (repeat (first | refine then_r ?_ | refine block_r ?_ | refine loop_r ?_)); refine u_rH [(300, 30000), (301, 30001)] ?_ ?_)
        · rfl
        · rfl
      · rw [if_neg hc]
        have hF := Classical.choose_spec (fst_ex o nx ou ws st.toNat)
        generalize Classical.choose (fst_ex o nx ou ws st.toNat) = r at *
        have hcr : ∀ n : Nat, 1 ≤ n → n ≤ 10 → 1 ≤ cntM n o nx.length ∧ cntM n o nx.length ≤ 1500000 := fun n a b => capC_range (no_range (n := (n : Int)) (by omega) ho) _
        have hmc : ∀ n : Nat, 1 ≤ n → n ≤ 10 → AC Try.prog 89 [.int .i64 n, .ptr (mach s o nx ou)] (.int .i64 (cntM n o nx.length)) := fun n a b => impl_count m (n := (n : Int)) (by omega)
        have hmv : ∀ n k : Nat, 1 ≤ n → n ≤ 10 → MV n o (numX n o nx.length k).1 (numX n o nx.length k).2 ∧ (numX n o nx.length k).1.length = nx.length := fun n k a b => ⟨mv_num ⟨a, b⟩ ho hL (by omega), by simp [numX]⟩
        have hnu : ∀ n k : Nat, 1 ≤ n → n ≤ 10 → (k : Int) ≤ 1500000 → HC Try.prog 91 [.d (mach s o nx ou), .d (.int .i64 n), .d (.int .i64 k)] [] (.agg [.d (.int .i64 n), .d (.int .i64 o), .own 30000, .own 30001])
            [(30000, .rows 25 2 1 (rws (numX n o nx.length k).1) none), (30001, .rows 25 2 1 (rws (numX n o nx.length k).2) none)] := fun n k a b c => impl_numberedH m ⟨a, b⟩ (by omega)
        have hfa : ∀ n k : Nat, 1 ≤ n → n ≤ 10 → AC Try.prog 92 [mach s o nx ou, .agg [.int .i64 n, .int .i64 o, .lst ((rws (numX n o nx.length k).1).map D.lst), .lst ((rws (numX n o nx.length k).2).map D.lst)], rows ws] (.bool (decide ((failS nx ou (numX n o nx.length k).1 (numX n o nx.length k).2 0 ws).1 < 0))) := fun n k a b => by
          rw [rws_dat, rws_dat]
          exact impl_passes m (hmv n k a b).1 (hmv n k a b).2 ⟨q1, q2⟩
        have hdi := fun n k a b => impl_apartRH m (hmv n k a b).1 (hmv n k a b).2
        have hhit : ∀ n k, hitB o nx ou ws n k = (decide ((failS nx ou (numX n o nx.length k).1 (numX n o nx.length k).2 0 ws).1 < 0) && (apR nx ou (numX n o nx.length k).1 (numX n o nx.length k).2).2) := fun _ _ => rfl
        have hfh := fun n k a b c d e => fst_hit (n := n) (k := k) hF a b c d e
        have hfn := fun h => fst_none hF h
        have hcc := hcr
        generalize cntM st o nx.length = cst at *
        refine hc_intro tabIs _ Try.func40 rfl rfl Try.ntmps40 rfl rfl rfl ?_ fun w0 ok0 XM XA anc => ?_
        · exact likeIn_nil
        repeat (first | refine awp_seq ?_ | refine then_n ?_ | refine then_r ?_ | refine then_x ?_ | refine block_n ?_ | refine block_r ?_ | refine block_x ?_ | refine u_y ?_ | refine loop_r ?_ | refine loop_x ?_ | refine awp_region ?_ | refine awpL_nil ?_ | refine awpQL_nil ?_ | refine awp_block ?_ | refine awp_skip ?_ | refine awp_exit ?_ | refine awp_label ?_ | refine u_dT ?_ | refine u_d ?_ | ((first | apply c_l | apply c_q | apply c_lr | apply c_qr); (iterate 2 exact rfl); (focus (first | exact e1 | exact e3)); (iterate 2 exact rfl)) | (apply v_c; (iterate 4 exact rfl); (focus (first | exact e1 | exact e3)); (iterate 2 exact rfl)) | refine u_l ?_ | refine u_o ?_ | refine u_q ?_ | refine u_lr ?_ | refine u_qr ?_ | refine u_ls ?_ | refine u_qs ?_ | refine u_t ?_ | refine u_f ?_ | refine v_s ?_ | refine v_o ?_ | refine v_on ?_ | refine v_og ?_ | refine v_q ?_ | refine v_sr ?_ | refine v_k ?_ | refine m_nil ?_)
        refine awp_loop (fun n : Nat => 1 ≤ n ∧ n ≤ st.toNat + 1 ∧ ∀ n', 1 ≤ n' → n' < n → ∀ k : Nat, (k : Int) < cntM n' o nx.length → hitB o nx ou ws n' k = false) (fun n => [(3, .d (.ptr (mach s o nx ou))), (4, .d (.ptr (rows ws))), (5, .d (.ptr (.int .i64 st))), (6, .ref 6 0), (9, .d (.fn 89 [.ptr (mach s o nx ou)])), (10, .d (.int .i64 n))]) (fun _ => [(6, .box [.d (.int .i64 0), .d (.int .i64 0), .d .nils, .d .nils])]) (fun n => st.toNat + 1 - n) 1 (by exact ⟨by omega, by omega, fun n' a b => by omega⟩) ?_ rfl ?_
        · ((repeat (first | exact trivial | (refine ⟨?_, ?_⟩; (focus (first | rfl | (simp [lk, argsS, args0]; done) | (simp [lk, argsS, args0]; omega)))))))
        · rintro n ⟨hn1, hn2, hno⟩
          by_cases hns : (n : Int) ≤ st
          · have e4 := hmc n hn1 (by omega)
            have hcn := hcc n hn1 (by omega)
            have hfhn := fun k => hfh n k ⟨hn1, by omega⟩
            have hnext : (∀ k : Nat, (k : Int) < cntM n o nx.length → hitB o nx ou ws n k = false) → ∀ n', 1 ≤ n' → n' < n + 1 → ∀ k : Nat, (k : Int) < cntM n' o nx.length → hitB o nx ou ws n' k = false := fun hh n' a b k hk => by
              by_cases e : n' = n
              · subst e; exact hh k hk
              · exact hno n' a (by omega) k hk
            generalize hC : cntM n o nx.length = C at *
            repeat (first | refine awp_seq ?_ | refine then_n ?_ | refine then_r ?_ | refine then_x ?_ | refine block_n ?_ | refine block_r ?_ | refine block_x ?_ | refine u_y ?_ | refine loop_r ?_ | refine loop_x ?_ | refine awp_region ?_ | refine awpL_nil ?_ | refine awpQL_nil ?_ | refine awp_block ?_ | refine awp_skip ?_ | refine awp_exit ?_ | refine awp_label ?_ | refine u_dT ?_ | refine u_d ?_ | ((first | apply c_l | apply c_q | apply c_lr | apply c_qr); (iterate 2 exact rfl); (focus (first | exact e4)); (iterate 2 exact rfl)) | (apply v_c; (iterate 4 exact rfl); (focus (first | exact e4)); (iterate 2 exact rfl)) | refine u_l ?_ | refine u_o ?_ | refine u_q ?_ | refine u_lr ?_ | refine u_qr ?_ | refine u_ls ?_ | refine u_qs ?_ | refine u_t ?_ | refine u_f ?_ | refine v_s ?_ | refine v_o ?_ | refine v_on ?_ | refine v_og ?_ | refine v_q ?_ | refine v_sr ?_ | refine v_k ?_ | refine m_nil ?_)
            refine awp_loop (fun k : Nat => (k : Int) ≤ C ∧ ∀ k', k' < k → hitB o nx ou ws n k' = false) (fun k => [(3, .d (.ptr (mach s o nx ou))), (4, .d (.ptr (rows ws))), (5, .d (.ptr (.int .i64 st))), (6, .ref 6 0), (9, .d (.fn 89 [.ptr (mach s o nx ou)])), (10, .d (.int .i64 n)), (35, .d (.int .i64 C)), (36, .d (.int .i64 k))]) (fun _ => [(6, .box [.d (.int .i64 0), .d (.int .i64 0), .d .nils, .d .nils])]) (fun k => C.toNat - k) 0 (by exact ⟨by omega, fun k' h => by omega⟩) ?_ rfl ?_
            · ((repeat (first | exact trivial | (refine ⟨?_, ?_⟩; (focus (first | rfl | (simp [lk, argsS, args0]; done) | (simp [lk, argsS, args0]; omega)))))))
            · rintro k ⟨hk, hkno⟩
              by_cases hkl : (k : Int) < C
              · have e5 := hnu n k hn1 (by omega) (by omega)
                have e6 := hfa n k hn1 (by omega)
                have e7 := hdi n k hn1 (by omega)
                have hh := hhit n k
                have hgo := fun h => hfhn k hkl h hkno hno
                generalize failS nx ou (numX n o nx.length k).1 (numX n o nx.length k).2 0 ws = p at *
                generalize apR nx ou (numX n o nx.length k).1 (numX n o nx.length k).2 = A at *
                by_cases hp : p.1 < 0
                · rw [decide_eq_true hp] at e6 hh
                  rw [Bool.true_and] at hh
                  cases hA : A.2
                  · rw [hA] at e7 hh
                    generalize numX n o nx.length k = X at *
                    repeat (first | refine awp_seq ?_ | refine then_n ?_ | refine then_r ?_ | refine then_x ?_ | refine block_n ?_ | refine block_r ?_ | refine block_x ?_ | refine u_y ?_ | refine loop_r ?_ | refine loop_x ?_ | refine awp_region ?_ | refine awpL_nil ?_ | refine awpQL_nil ?_ | refine awp_block ?_ | refine awp_skip ?_ | refine awp_exit ?_ | refine awp_label ?_ | refine u_dT ?_ | refine u_d ?_ | refine u_l ?_ | refine u_o ?_ | refine u_q ?_ | refine u_lr ?_ | refine u_qr ?_ | refine u_ls ?_ | refine u_qs ?_ | refine u_t ?_ | refine u_f ?_ | refine v_s ?_ | refine v_o ?_ | refine v_on ?_ | refine v_og ?_ | refine v_q ?_ | refine v_sr ?_ | refine v_k ?_ | refine m_nil ?_)
                    refine hcl [] [(30000, 500), (30001, 501)] e5 ?_
                    repeat (first | refine awp_seq ?_ | refine then_n ?_ | refine then_r ?_ | refine then_x ?_ | refine block_n ?_ | refine block_r ?_ | refine block_x ?_ | refine u_y ?_ | refine loop_r ?_ | refine loop_x ?_ | refine awp_region ?_ | refine awpL_nil ?_ | refine awpQL_nil ?_ | refine awp_block ?_ | refine awp_skip ?_ | refine awp_exit ?_ | refine awp_label ?_ | refine u_dT ?_ | refine u_d ?_ | ((first | apply c_l | apply c_q | apply c_lr | apply c_qr); (iterate 2 exact rfl); (focus (first | exact e6)); (iterate 2 exact rfl)) | (apply v_c; (iterate 4 exact rfl); (focus (first | exact e6)); (iterate 2 exact rfl)) | refine u_l ?_ | refine u_o ?_ | refine u_q ?_ | refine u_lr ?_ | refine u_qr ?_ | refine u_ls ?_ | refine u_qs ?_ | refine u_t ?_ | refine u_f ?_ | refine v_s ?_ | refine v_o ?_ | refine v_on ?_ | refine v_og ?_ | refine v_q ?_ | refine v_sr ?_ | refine v_k ?_ | refine m_nil ?_)
                    refine hlend (xs := [mach s o nx ou, .agg [.int .i64 n, .int .i64 o, .lst ((rws X.1).map D.lst), .lst ((rws X.2).map D.lst)], .int .i64 0, .int .i64 0]) (cap := []) [(30000, 503)] e7 ?_ ?_ ?_
                    · intro q hq
                      simp at hq
                      subst hq
                      intro x hx
                      simp at hx
                      obtain ⟨a, _, rfl⟩ := hx
                      rfl
                    · exact ⟨trivial, rfl, trivial⟩
                    repeat (first | refine awp_seq ?_ | refine then_n ?_ | refine then_r ?_ | refine then_x ?_ | refine block_n ?_ | refine block_r ?_ | refine block_x ?_ | refine u_y ?_ | refine loop_r ?_ | refine loop_x ?_ | refine awpL_nil ?_ | refine awpQL_nil ?_ | refine awp_block ?_ | refine awp_skip ?_ | refine awp_exit ?_ | refine awp_label ?_ | refine u_dT ?_ | refine u_d ?_ | refine u_l ?_ | refine u_o ?_ | refine u_q ?_ | refine u_lr ?_ | refine u_qr ?_ | refine u_ls ?_ | refine u_qs ?_ | refine u_t ?_ | refine u_f ?_ | refine v_s ?_ | refine v_o ?_ | refine v_on ?_ | refine v_og ?_ | refine v_q ?_ | refine v_sr ?_ | refine v_k ?_ | refine m_nil ?_)
                    refine awp_freeze 503 rfl rfl ?_
                    refine awp_freeze 500 rfl rfl ?_
                    refine awp_freeze 501 rfl rfl ?_
                    refine awp_freezeB 12 rfl rfl rfl ?_
                    repeat (first | refine awp_seq ?_ | refine then_n ?_ | refine then_r ?_ | refine then_x ?_ | refine block_n ?_ | refine block_r ?_ | refine block_x ?_ | refine u_y ?_ | refine loop_r ?_ | refine loop_x ?_ | refine awp_region ?_ | refine awpL_nil ?_ | refine awpQL_nil ?_ | refine awp_block ?_ | refine awp_skip ?_ | refine awp_exit ?_ | refine awp_label ?_ | refine u_dT ?_ | refine u_d ?_ | refine u_l ?_ | refine u_o ?_ | refine u_q ?_ | refine u_lr ?_ | refine u_qr ?_ | refine u_ls ?_ | refine u_qs ?_ | refine u_t ?_ | refine u_f ?_ | refine v_s ?_ | refine v_o ?_ | refine v_on ?_ | refine v_og ?_ | refine v_q ?_ | refine v_sr ?_ | refine v_k ?_ | refine m_nil ?_)
                    refine loop_n (k + 1) ⟨by omega, fun k' hk' => ?_⟩ ?_ rfl (by omega)
                    · by_cases e : k' = k
                      · subst e; exact hh
                      · exact hkno k' (by omega)
                    · ((repeat (first | exact trivial | (refine ⟨?_, ?_⟩; (focus (first | rfl | (simp [lk, argsS, args0]; done) | (simp [lk, argsS, args0]; omega)))))))
                  · rw [hA] at e7 hh
                    have hr' := hgo hh
                    subst hr'
                    simp only []
                    generalize numX n o nx.length k = X at *
                    repeat (first | refine awp_seq ?_ | refine then_n ?_ | refine then_r ?_ | refine then_x ?_ | refine block_n ?_ | refine block_r ?_ | refine block_x ?_ | refine u_y ?_ | refine loop_r ?_ | refine loop_x ?_ | refine awp_region ?_ | refine awpL_nil ?_ | refine awpQL_nil ?_ | refine awp_block ?_ | refine awp_skip ?_ | refine awp_exit ?_ | refine awp_label ?_ | refine u_dT ?_ | refine u_d ?_ | refine u_l ?_ | refine u_o ?_ | refine u_q ?_ | refine u_lr ?_ | refine u_qr ?_ | refine u_ls ?_ | refine u_qs ?_ | refine u_t ?_ | refine u_f ?_ | refine v_s ?_ | refine v_o ?_ | refine v_on ?_ | refine v_og ?_ | refine v_q ?_ | refine v_sr ?_ | refine v_k ?_ | refine m_nil ?_)
                    refine hcl [] [(30000, 500), (30001, 501)] e5 ?_
                    repeat (first | refine awp_seq ?_ | refine then_n ?_ | refine then_r ?_ | refine then_x ?_ | refine block_n ?_ | refine block_r ?_ | refine block_x ?_ | refine u_y ?_ | refine loop_r ?_ | refine loop_x ?_ | refine awp_region ?_ | refine awpL_nil ?_ | refine awpQL_nil ?_ | refine awp_block ?_ | refine awp_skip ?_ | refine awp_exit ?_ | refine awp_label ?_ | refine u_dT ?_ | refine u_d ?_ | ((first | apply c_l | apply c_q | apply c_lr | apply c_qr); (iterate 2 exact rfl); (focus (first | exact e6)); (iterate 2 exact rfl)) | (apply v_c; (iterate 4 exact rfl); (focus (first | exact e6)); (iterate 2 exact rfl)) | refine u_l ?_ | refine u_o ?_ | refine u_q ?_ | refine u_lr ?_ | refine u_qr ?_ | refine u_ls ?_ | refine u_qs ?_ | refine u_t ?_ | refine u_f ?_ | refine v_s ?_ | refine v_o ?_ | refine v_on ?_ | refine v_og ?_ | refine v_q ?_ | refine v_sr ?_ | refine v_k ?_ | refine m_nil ?_)
                    refine hlend (xs := [mach s o nx ou, .agg [.int .i64 n, .int .i64 o, .lst ((rws X.1).map D.lst), .lst ((rws X.2).map D.lst)], .int .i64 0, .int .i64 0]) (cap := []) [(30000, 503)] e7 ?_ ?_ ?_
                    · intro q hq
                      simp at hq
                      subst hq
                      intro x hx
                      simp at hx
                      obtain ⟨a, _, rfl⟩ := hx
                      rfl
                    · exact ⟨trivial, rfl, trivial⟩
                    repeat (first | refine awp_seq ?_ | refine then_n ?_ | refine then_r ?_ | refine then_x ?_ | refine block_n ?_ | refine block_r ?_ | refine block_x ?_ | refine u_y ?_ | refine loop_r ?_ | refine loop_x ?_ | refine awp_region ?_ | refine awpL_nil ?_ | refine awpQL_nil ?_ | refine awp_block ?_ | refine awp_skip ?_ | refine awp_exit ?_ | refine awp_label ?_ | refine u_dT ?_ | refine u_d ?_ | refine u_l ?_ | refine u_o ?_ | refine u_q ?_ | refine u_lr ?_ | refine u_qr ?_ | refine u_ls ?_ | refine u_qs ?_ | refine u_t ?_ | refine u_f ?_ | refine v_s ?_ | refine v_o ?_ | refine v_on ?_ | refine v_og ?_ | refine v_q ?_ | refine v_sr ?_ | refine v_k ?_ | refine m_nil ?_)
                    (refine awp_ret ?_; (repeat (first | refine then_r ?_ | refine block_r ?_ | refine loop_r ?_)); refine u_rH [(500, 30000), (501, 30001)] ?_ ?_)
                    · rfl
                    · rfl
                · rw [decide_eq_false hp] at e6 hh
                  rw [Bool.false_and] at hh
                  generalize numX n o nx.length k = X at *
                  repeat (first | refine awp_seq ?_ | refine then_n ?_ | refine then_r ?_ | refine then_x ?_ | refine block_n ?_ | refine block_r ?_ | refine block_x ?_ | refine u_y ?_ | refine loop_r ?_ | refine loop_x ?_ | refine awp_region ?_ | refine awpL_nil ?_ | refine awpQL_nil ?_ | refine awp_block ?_ | refine awp_skip ?_ | refine awp_exit ?_ | refine awp_label ?_ | refine u_dT ?_ | refine u_d ?_ | refine u_l ?_ | refine u_o ?_ | refine u_q ?_ | refine u_lr ?_ | refine u_qr ?_ | refine u_ls ?_ | refine u_qs ?_ | refine u_t ?_ | refine u_f ?_ | refine v_s ?_ | refine v_o ?_ | refine v_on ?_ | refine v_og ?_ | refine v_q ?_ | refine v_sr ?_ | refine v_k ?_ | refine m_nil ?_)
                  refine hcl [] [(30000, 500), (30001, 501)] e5 ?_
                  repeat (first | refine awp_seq ?_ | refine then_n ?_ | refine then_r ?_ | refine then_x ?_ | refine block_n ?_ | refine block_r ?_ | refine block_x ?_ | refine u_y ?_ | refine loop_r ?_ | refine loop_x ?_ | refine awpL_nil ?_ | refine awpQL_nil ?_ | refine awp_block ?_ | refine awp_skip ?_ | refine awp_exit ?_ | refine awp_label ?_ | refine u_dT ?_ | refine u_d ?_ | refine u_l ?_ | refine u_o ?_ | refine u_q ?_ | refine u_lr ?_ | refine u_qr ?_ | refine u_ls ?_ | refine u_qs ?_ | refine u_t ?_ | refine u_f ?_ | refine v_s ?_ | refine v_o ?_ | refine v_on ?_ | refine v_og ?_ | refine v_q ?_ | refine v_sr ?_ | refine v_k ?_ | refine m_nil ?_)
                  refine awp_freeze 500 rfl rfl ?_
                  refine awp_freeze 501 rfl rfl ?_
                  refine awp_freezeB 12 rfl rfl rfl ?_
                  repeat (first | refine awp_seq ?_ | refine then_n ?_ | refine then_r ?_ | refine then_x ?_ | refine block_n ?_ | refine block_r ?_ | refine block_x ?_ | refine u_y ?_ | refine loop_r ?_ | refine loop_x ?_ | refine awp_region ?_ | refine awpL_nil ?_ | refine awpQL_nil ?_ | refine awp_block ?_ | refine awp_skip ?_ | refine awp_exit ?_ | refine awp_label ?_ | refine u_dT ?_ | refine u_d ?_ | ((first | apply c_l | apply c_q | apply c_lr | apply c_qr); (iterate 2 exact rfl); (focus (first | exact e6)); (iterate 2 exact rfl)) | (apply v_c; (iterate 4 exact rfl); (focus (first | exact e6)); (iterate 2 exact rfl)) | refine u_l ?_ | refine u_o ?_ | refine u_q ?_ | refine u_lr ?_ | refine u_qr ?_ | refine u_ls ?_ | refine u_qs ?_ | refine u_t ?_ | refine u_f ?_ | refine v_s ?_ | refine v_o ?_ | refine v_on ?_ | refine v_og ?_ | refine v_q ?_ | refine v_sr ?_ | refine v_k ?_ | refine m_nil ?_)
                  refine loop_n (k + 1) ⟨by omega, fun k' hk' => ?_⟩ ?_ rfl (by omega)
                  · by_cases e : k' = k
                    · subst e; exact hh
                    · exact hkno k' (by omega)
                  · ((repeat (first | exact trivial | (refine ⟨?_, ?_⟩; (focus (first | rfl | (simp [lk, argsS, args0]; done) | (simp [lk, argsS, args0]; omega)))))))
              · have hkC : k = C.toNat := by omega
                subst hkC
                repeat (first | refine awp_seq ?_ | refine then_n ?_ | refine then_r ?_ | refine then_x ?_ | refine block_n ?_ | refine block_r ?_ | refine block_x ?_ | refine u_y ?_ | refine loop_r ?_ | refine loop_x ?_ | refine awp_region ?_ | refine awpL_nil ?_ | refine awpQL_nil ?_ | refine awp_block ?_ | refine awp_skip ?_ | refine awp_exit ?_ | refine awp_label ?_ | refine u_dT ?_ | refine u_d ?_ | refine u_l ?_ | refine u_o ?_ | refine u_q ?_ | refine u_lr ?_ | refine u_qr ?_ | refine u_ls ?_ | refine u_qs ?_ | refine u_t ?_ | refine u_f ?_ | refine v_s ?_ | refine v_o ?_ | refine v_on ?_ | refine v_og ?_ | refine v_q ?_ | refine v_sr ?_ | refine v_k ?_ | refine m_nil ?_)
                refine loop_n (n + 1) ⟨by omega, by omega, hnext fun k hk => hkno k (by omega)⟩ ?_ rfl (by omega)
                ((repeat (first | exact trivial | (refine ⟨?_, ?_⟩; (focus (first | rfl | (simp [lk, argsS, args0]; done) | (simp [lk, argsS, args0]; omega)))))))
          · have hr' := hfn fun n' a b k hk => hno n' a (by omega) k hk
            subst hr'
            repeat (first | refine awp_seq ?_ | refine then_n ?_ | refine then_r ?_ | refine then_x ?_ | refine block_n ?_ | refine block_r ?_ | refine block_x ?_ | refine u_y ?_ | refine loop_r ?_ | refine loop_x ?_ | refine awp_region ?_ | refine awpL_nil ?_ | refine awpQL_nil ?_ | refine awp_block ?_ | refine awp_skip ?_ | refine awp_exit ?_ | refine awp_label ?_ | refine u_dT ?_ | refine u_d ?_ | refine u_l ?_ | refine u_o ?_ | refine u_q ?_ | refine u_lr ?_ | refine u_qr ?_ | refine u_ls ?_ | refine u_qs ?_ | refine u_t ?_ | refine u_f ?_ | refine v_s ?_ | refine v_o ?_ | refine v_on ?_ | refine v_og ?_ | refine v_q ?_ | refine v_sr ?_ | refine v_k ?_ | refine m_nil ?_)
            refine awp_nilCell 6 2 300 25 1 (by exact rfl) (by exact rfl) rfl rfl rfl ?_
            refine awp_toRows 300 2 1 rfl rfl rfl rfl ?_
            refine awp_nilCell 6 3 301 25 1 (by exact rfl) (by exact rfl) rfl rfl rfl ?_
            refine awp_toRows 301 2 1 rfl rfl rfl rfl ?_
            (refine awp_ret ?_; (repeat (first | refine then_r ?_ | refine block_r ?_ | refine loop_r ?_)); refine u_rH [(300, 30000), (301, 30001)] ?_ ?_)
            · rfl
            · rfl
    · rw [if_neg hr] at e1 ⊢
      refine hc_intro tabIs _ Try.func40 rfl rfl Try.ntmps40 rfl rfl rfl ?_ fun w0 ok0 XM XA anc => ?_
      · exact likeIn_nil
      repeat (first | refine awp_seq ?_ | refine then_n ?_ | refine then_r ?_ | refine then_x ?_ | refine block_n ?_ | refine block_r ?_ | refine block_x ?_ | refine u_y ?_ | refine loop_r ?_ | refine loop_x ?_ | refine awp_region ?_ | refine awpL_nil ?_ | refine awpQL_nil ?_ | refine awp_block ?_ | refine awp_skip ?_ | refine awp_exit ?_ | refine awp_label ?_ | refine u_dT ?_ | refine u_d ?_ | ((first | apply c_l | apply c_q | apply c_lr | apply c_qr); (iterate 2 exact rfl); (focus (first | exact e1)); (iterate 2 exact rfl)) | (apply v_c; (iterate 4 exact rfl); (focus (first | exact e1)); (iterate 2 exact rfl)) | refine u_l ?_ | refine u_o ?_ | refine u_q ?_ | refine u_lr ?_ | refine u_qr ?_ | refine u_ls ?_ | refine u_qs ?_ | refine u_t ?_ | refine u_f ?_ | refine v_s ?_ | refine v_o ?_ | refine v_on ?_ | refine v_og ?_ | refine v_q ?_ | refine v_sr ?_ | refine v_k ?_ | refine m_nil ?_)
      refine awp_nilCell 6 2 300 25 1 (by exact rfl) (by exact rfl) rfl rfl rfl ?_
      refine awp_toRows 300 2 1 rfl rfl rfl rfl ?_
      refine awp_nilCell 6 3 301 25 1 (by exact rfl) (by exact rfl) rfl rfl rfl ?_
      refine awp_toRows 301 2 1 rfl rfl rfl rfl ?_
      (refine awp_ret ?_; (repeat (first | refine then_r ?_ | refine block_r ?_ | refine loop_r ?_)); refine u_rH [(300, 30000), (301, 30001)] ?_ ?_)
      · rfl
      · rfl
  · rw [if_neg hv] at e1 ⊢
    refine hc_intro tabIs _ Try.func40 rfl rfl Try.ntmps40 rfl rfl rfl ?_ fun w0 ok0 XM XA anc => ?_
    · exact likeIn_nil
    repeat (first | refine awp_seq ?_ | refine then_n ?_ | refine then_r ?_ | refine then_x ?_ | refine block_n ?_ | refine block_r ?_ | refine block_x ?_ | refine u_y ?_ | refine loop_r ?_ | refine loop_x ?_ | refine awp_region ?_ | refine awpL_nil ?_ | refine awpQL_nil ?_ | refine awp_block ?_ | refine awp_skip ?_ | refine awp_exit ?_ | refine awp_label ?_ | refine u_dT ?_ | refine u_d ?_ | ((first | apply c_l | apply c_q | apply c_lr | apply c_qr); (iterate 2 exact rfl); (focus (first | exact e1)); (iterate 2 exact rfl)) | (apply v_c; (iterate 4 exact rfl); (focus (first | exact e1)); (iterate 2 exact rfl)) | refine u_l ?_ | refine u_o ?_ | refine u_q ?_ | refine u_lr ?_ | refine u_qr ?_ | refine u_ls ?_ | refine u_qs ?_ | refine u_t ?_ | refine u_f ?_ | refine v_s ?_ | refine v_o ?_ | refine v_on ?_ | refine v_og ?_ | refine v_q ?_ | refine v_sr ?_ | refine v_k ?_ | refine m_nil ?_)
    refine awp_nilCell 6 2 300 25 1 (by exact rfl) (by exact rfl) rfl rfl rfl ?_
    refine awp_toRows 300 2 1 rfl rfl rfl rfl ?_
    refine awp_nilCell 6 3 301 25 1 (by exact rfl) (by exact rfl) rfl rfl rfl ?_
    refine awp_toRows 301 2 1 rfl rfl rfl rfl ?_
    (refine awp_ret ?_; (repeat (first | refine then_r ?_ | refine block_r ?_ | refine loop_r ?_)); refine u_rH [(300, 30000), (301, 30001)] ?_ ?_)
    · rfl
    · rfl

theorem fsD_small {s o st : Int} {nx ou ws : List (List Int)} : RowsOk (fsD s o nx ou ws st).2.1.1 ∧ RowsOk (fsD s o nx ou ws st).2.1.2 ∧ ((fsD s o nx ou ws st).2.1.1.length ≤ 3 ∧ ∀ ns ∈ (fsD s o nx ou ws st).2.1.1, ns.length ≤ 10) ∧ ((fsD s o nx ou ws st).2.1.2.length ≤ 3 ∧ ∀ ns ∈ (fsD s o nx ou ws st).2.1.2, ns.length ≤ 10) := by
  have h0 : RowsOk [] ∧ RowsOk [] ∧ (([] : List (List Int)).length ≤ 3 ∧ ∀ ns ∈ ([] : List (List Int)), ns.length ≤ 10) ∧ (([] : List (List Int)).length ≤ 3 ∧ ∀ ns ∈ ([] : List (List Int)), ns.length ≤ 10) := ⟨⟨by simp, by simp⟩, ⟨by simp, by simp⟩, by simp, by simp⟩
  unfold fsD
  split
  · rename_i hv
    have m := mv_of hv
    split
    · rename_i hr
      rw [Bool.and_eq_true] at hr
      have hb := inB_iff.1 hr.2
      split
      · exact h0
      · have hF := Classical.choose_spec (fst_ex o nx ou ws st.toNat)
        generalize Classical.choose (fst_ex o nx ou ws st.toNat) = r at *
        cases r with
        | none => exact h0
        | some p =>
          obtain ⟨⟨a1, a2, _⟩, _⟩ := hF.yes p.1 p.2 rfl
          have m' := mv_num (n := p.1) (o := o) (L := nx.length) (number := p.2) ⟨a1, by omega⟩ m.o1 m.n1 (by omega)
          have n1 := m'.n1
          have s1 := m'.s1
          exact ⟨m'.rnx, m'.rou, ⟨n1.2, fun ns h => by have := (m'.nx ns h).1; omega⟩, by rw [m'.eq]; exact n1.2, fun ns h => by have := (m'.ou ns h).1; omega⟩
    · exact h0
  · exact h0

theorem law_ExactFirstSurvivor {s o st : Int} {nx ou ws : List (List Int)} (g1 : I64 s) (g2 : I64 o) (h1 : RowsOk nx) (h2 : RowsOk ou) (h5 : RowsOk ws) (g6 : I64 st) : AC Try.prog 9 [mach s o nx ou, rows ws, .int .i64 st] (.bool true) := by
  have e1 := laws_szMachine (s := s) (o := o) (left := 1048576) h1 h2 (by omega)
  have hok := szM_ok (nx := nx) (ou := ou) (left := 1048576) (by omega)
  generalize szM nx ou 1048576 = left1 at *
  obtain ⟨b1, b2, b3⟩ := hok
  by_cases hc : left1 < 0
  · unfold mach at *
    refine ac_intro tabIs _ Try.func9 rfl rfl Try.ntmps9 rfl rfl fun w0 ok0 => ?_
    repeat (first | refine awp_seq ?_ | refine then_n ?_ | refine then_r ?_ | refine then_x ?_ | refine block_n ?_ | refine block_r ?_ | refine block_x ?_ | refine u_y ?_ | refine loop_r ?_ | refine loop_x ?_ | refine awp_region ?_ | refine awpL_nil ?_ | refine awpQL_nil ?_ | refine awp_block ?_ | refine awp_skip ?_ | refine awp_exit ?_ | refine awp_label ?_ | refine u_dT ?_ | refine u_d ?_ | ((first | apply c_l | apply c_q | apply c_lr | apply c_qr); (iterate 2 exact rfl); (focus (first | exact e1)); (iterate 2 exact rfl)) | (apply v_c; (iterate 4 exact rfl); (focus (first | exact e1)); (iterate 2 exact rfl)) | refine u_l ?_ | refine u_o ?_ | refine u_q ?_ | refine u_lr ?_ | refine u_qr ?_ | refine u_ls ?_ | refine u_qs ?_ | refine u_t ?_ | refine u_f ?_ | refine v_s ?_ | refine v_o ?_ | refine v_on ?_ | refine v_og ?_ | refine v_q ?_ | refine v_sr ?_ | refine v_k ?_ | refine m_nil ?_)
    (refine awp_ret ?_; (repeat (first | refine then_r ?_ | refine block_r ?_ | refine loop_r ?_)); apply ret_ok (.inr rfl); (focus exact rfl))
    rfl
  · obtain ⟨⟨a1, a2⟩, a3, a4⟩ := b3 (by omega)
    have a1' : nx.length ≤ 1048576 := by omega
    have a2' : ∀ ns ∈ nx, ns.length ≤ 1048576 := fun ns h => by have := a2 ns h; omega
    have a3' : ou.length ≤ 1048576 := by omega
    have a4' : ∀ ns ∈ ou, ns.length ≤ 1048576 := fun ns h => by have := a4 ns h; omega
    have e2 := laws_szInt64SS (nss := ws) (left := left1) h5 (by omega)
    have hok2 := szR_ok (nss := ws) (left := left1) (by omega)
    generalize szR ws left1 = left2 at *
    obtain ⟨c0, c3⟩ := hok2
    by_cases hd : left2 < 0
    · unfold mach at *
      refine ac_intro tabIs _ Try.func9 rfl rfl Try.ntmps9 rfl rfl fun w0 ok0 => ?_
      repeat (first | refine awp_seq ?_ | refine then_n ?_ | refine then_r ?_ | refine then_x ?_ | refine block_n ?_ | refine block_r ?_ | refine block_x ?_ | refine u_y ?_ | refine loop_r ?_ | refine loop_x ?_ | refine awp_region ?_ | refine awpL_nil ?_ | refine awpQL_nil ?_ | refine awp_block ?_ | refine awp_skip ?_ | refine awp_exit ?_ | refine awp_label ?_ | refine u_dT ?_ | refine u_d ?_ | ((first | apply c_l | apply c_q | apply c_lr | apply c_qr); (iterate 2 exact rfl); (focus (first | exact e1 | exact e2)); (iterate 2 exact rfl)) | (apply v_c; (iterate 4 exact rfl); (focus (first | exact e1 | exact e2)); (iterate 2 exact rfl)) | refine u_l ?_ | refine u_o ?_ | refine u_q ?_ | refine u_lr ?_ | refine u_qr ?_ | refine u_ls ?_ | refine u_qs ?_ | refine u_t ?_ | refine u_f ?_ | refine v_s ?_ | refine v_o ?_ | refine v_on ?_ | refine v_og ?_ | refine v_q ?_ | refine v_sr ?_ | refine v_k ?_ | refine m_nil ?_)
      (refine awp_ret ?_; (repeat (first | refine then_r ?_ | refine block_r ?_ | refine loop_r ?_)); apply ret_ok (.inr rfl); (focus exact rfl))
      rfl
    · obtain ⟨c1, c2⟩ := c3 (by omega)
      have c1' : ws.length ≤ 1048576 := by omega
      have c2' : ∀ ns ∈ ws, ns.length ≤ 1048576 := fun ns h => by have := c2 ns h; omega
      have t1 := laws_toMachine (s := s) (o := o) a1' a2' a3' a4'
      have t2 := laws_toInt64SS c1' c2'
      have t3 := laws_toMachineH (s := s) (o := o) a1' a2' a3' a4'
      have t4 := laws_toInt64SSH c1' c2'
      have f1 := spec_FirstSurvivor (s := s) (o := o) (st := st) h1 h2 h5
      have f2 := impl_FirstSurvivorH (s := s) (o := o) (st := st) h1 h2 h5
      obtain ⟨r1, r2, ⟨r3, r4⟩, r5, r6⟩ := fsD_small (s := s) (o := o) (st := st) (nx := nx) (ou := ou) (ws := ws)
      have T1 := tot_boundN a2'
      have T2 := tot_boundN a4'
      have T3 := tot_boundN c2'
      have T1' : tot nx ≤ 1048576 * 1048576 := Nat.le_trans T1 (Nat.mul_le_mul_right _ a1')
      have T2' : tot ou ≤ 1048576 * 1048576 := Nat.le_trans T2 (Nat.mul_le_mul_right _ a3')
      have T3' : tot ws ≤ 1048576 * 1048576 := Nat.le_trans T3 (Nat.mul_le_mul_right _ c1')
      have m1 := laws_markMachine (s := s) (o := o) (nx := nx) (ou := ou) (k := 1) (by omega) (by omega) (by omega) (by omega)
      have m2 := laws_markInt64SS (nss := ws) (k := 1 + tot nx + tot ou) (by omega) (by omega) (by omega)
      have f3' : HC Try.prog 40 ([D.agg [.int .i64 s, .int .i64 o, .lst ((rws nx).map D.lst), .lst ((rws ou).map D.lst)], .lst ((rws ws).map D.lst), .int .i64 st].map .d) [] (.tup [.agg [.d (.int .i64 (fsD s o nx ou ws st).1.1), .d (.int .i64 (fsD s o nx ou ws st).1.2), .own 30000, .own 30001], .d (.int .i64 (fsD s o nx ou ws st).2.2)])
        [(30000, .rows 25 2 1 (rws (fsD s o nx ou ws st).2.1.1) none), (30001, .rows 25 2 1 (rws (fsD s o nx ou ws st).2.1.2) none)] := by
        rw [rws_dat, rws_dat, rws_dat]
        exact f2
      generalize fsD s o nx ou ws st = z at *
      obtain ⟨⟨s', o'⟩, ⟨nx', ou'⟩, c⟩ := z
      dsimp only at *
      have U1 := tot_boundN r4
      have U2 := tot_boundN r6
      have m3 := laws_markMachine (s := s') (o := o') (nx := nx') (ou := ou') (k := 1) (by omega) (by omega) (by omega) (by omega)
      have d3 := laws_heldMachine (s := s') (o := o') (nx := nx') (ou := ou') (k := 1) (by omega) (by omega) (by omega) (by omega)
      have d3' : AC Try.prog 41 [.agg [.int .i64 s', .int .i64 o', .lst ((rws (mkR 1 nx')).map D.lst), .lst ((rws (mkR (1 + tot nx') ou')).map D.lst)], .int .i64 1] (.int .i64 (1 + tot nx' + tot ou')) := by
        rw [rws_dat, rws_dat]
        exact d3
      have q1 : AC Try.prog 28 [.agg [.int .i64 s', .int .i64 o', .lst ((rws nx').map D.lst), .lst ((rws ou').map D.lst)], mach s' o' nx' ou'] (.bool true) := by
        have := laws_eqMachine (s := s') (o := o') (s' := s') (o' := o') r1 r2 r1 r2
        rw [rws_dat, rws_dat]
        simp only [decide_true, Bool.and_self, Bool.and_true] at this
        exact this
      have q3 : AC Try.prog 28 [.agg [.int .i64 s, .int .i64 o, .lst ((rws nx).map D.lst), .lst ((rws ou).map D.lst)], mach s o nx ou] (.bool true) := by
        have := laws_eqMachine (s := s) (o := o) (s' := s) (o' := o) h1 h2 h1 h2
        rw [rws_dat, rws_dat]
        simp only [decide_true, Bool.and_self, Bool.and_true] at this
        exact this
      have q4 : AC Try.prog 34 [.lst ((rws ws).map D.lst), rows ws] (.bool true) := by
        have := laws_eqInt64SS (a := ws) (b := ws) h5 h5
        rw [rws_dat]
        simpa using this
      refine ac_intro tabIs _ Try.func9 rfl rfl Try.ntmps9 rfl rfl fun w0 ok0 => ?_
      repeat (first | refine awp_seq ?_ | refine then_n ?_ | refine then_r ?_ | refine then_x ?_ | refine block_n ?_ | refine block_r ?_ | refine block_x ?_ | refine u_y ?_ | refine loop_r ?_ | refine loop_x ?_ | refine awp_region ?_ | refine awpL_nil ?_ | refine awpQL_nil ?_ | refine awp_block ?_ | refine awp_skip ?_ | refine awp_exit ?_ | refine awp_label ?_ | refine u_dT ?_ | refine u_d ?_ | ((first | apply c_l | apply c_q | apply c_lr | apply c_qr); (iterate 2 exact rfl); (focus (first | exact e1 | exact e2)); (iterate 2 exact rfl)) | (apply v_c; (iterate 4 exact rfl); (focus (first | exact e1 | exact e2)); (iterate 2 exact rfl)) | refine u_l ?_ | refine u_o ?_ | refine u_q ?_ | refine u_lr ?_ | refine u_qr ?_ | refine u_ls ?_ | refine u_qs ?_ | refine u_t ?_ | refine u_f ?_ | refine v_s ?_ | refine v_o ?_ | refine v_on ?_ | refine v_og ?_ | refine v_q ?_ | refine v_sr ?_ | refine v_k ?_ | refine m_nil ?_)
      (apply c_l; (iterate 2 exact rfl); (focus exact t1); (iterate 2 exact rfl))
      repeat (first | refine awp_seq ?_ | refine then_n ?_ | refine then_r ?_ | refine then_x ?_ | refine block_n ?_ | refine block_r ?_ | refine block_x ?_ | refine u_y ?_ | refine loop_r ?_ | refine loop_x ?_ | refine awp_region ?_ | refine awpL_nil ?_ | refine awpQL_nil ?_ | refine awp_block ?_ | refine awp_skip ?_ | refine awp_exit ?_ | refine awp_label ?_ | refine u_dT ?_ | refine u_d ?_ | refine u_l ?_ | refine u_o ?_ | refine u_q ?_ | refine u_lr ?_ | refine u_qr ?_ | refine u_ls ?_ | refine u_qs ?_ | refine u_t ?_ | refine u_f ?_ | refine v_s ?_ | refine v_o ?_ | refine v_on ?_ | refine v_og ?_ | refine v_q ?_ | refine v_sr ?_ | refine v_k ?_ | refine m_nil ?_)
      (apply c_l; (iterate 2 exact rfl); (focus exact t2); (iterate 2 exact rfl))
      repeat (first | refine awp_seq ?_ | refine then_n ?_ | refine then_r ?_ | refine then_x ?_ | refine block_n ?_ | refine block_r ?_ | refine block_x ?_ | refine u_y ?_ | refine loop_r ?_ | refine loop_x ?_ | refine awp_region ?_ | refine awpL_nil ?_ | refine awpQL_nil ?_ | refine awp_block ?_ | refine awp_skip ?_ | refine awp_exit ?_ | refine awp_label ?_ | refine u_dT ?_ | refine u_d ?_ | ((first | apply c_l | apply c_q | apply c_lr | apply c_qr); (iterate 2 exact rfl); (focus (first | exact f1)); (iterate 2 exact rfl)) | (apply v_c; (iterate 4 exact rfl); (focus (first | exact f1)); (iterate 2 exact rfl)) | refine u_l ?_ | refine u_o ?_ | refine u_q ?_ | refine u_lr ?_ | refine u_qr ?_ | refine u_ls ?_ | refine u_qs ?_ | refine u_t ?_ | refine u_f ?_ | refine v_s ?_ | refine v_o ?_ | refine v_on ?_ | refine v_og ?_ | refine v_q ?_ | refine v_sr ?_ | refine v_k ?_ | refine m_nil ?_)
      refine hcl [] [(30000, 500), (30001, 501)] t3 ?_
      repeat (first | refine awp_seq ?_ | refine then_n ?_ | refine then_r ?_ | refine then_x ?_ | refine block_n ?_ | refine block_r ?_ | refine block_x ?_ | refine u_y ?_ | refine loop_r ?_ | refine loop_x ?_ | refine awp_region ?_ | refine awpL_nil ?_ | refine awpQL_nil ?_ | refine awp_block ?_ | refine awp_skip ?_ | refine awp_exit ?_ | refine awp_label ?_ | refine u_dT ?_ | refine u_d ?_ | refine u_l ?_ | refine u_o ?_ | refine u_q ?_ | refine u_lr ?_ | refine u_qr ?_ | refine u_ls ?_ | refine u_qs ?_ | refine u_t ?_ | refine u_f ?_ | refine v_s ?_ | refine v_o ?_ | refine v_on ?_ | refine v_og ?_ | refine v_q ?_ | refine v_sr ?_ | refine v_k ?_ | refine m_nil ?_)
      refine hcl [] [(30000, 506)] t4 ?_
      repeat (first | refine awp_seq ?_ | refine then_n ?_ | refine then_r ?_ | refine then_x ?_ | refine block_n ?_ | refine block_r ?_ | refine block_x ?_ | refine u_y ?_ | refine loop_r ?_ | refine loop_x ?_ | refine awp_region ?_ | refine awpL_nil ?_ | refine awpQL_nil ?_ | refine awp_block ?_ | refine awp_skip ?_ | refine awp_exit ?_ | refine awp_label ?_ | refine u_dT ?_ | refine u_d ?_ | refine u_l ?_ | refine u_o ?_ | refine u_q ?_ | refine u_lr ?_ | refine u_qr ?_ | refine u_ls ?_ | refine u_qs ?_ | refine u_t ?_ | refine u_f ?_ | refine v_s ?_ | refine v_o ?_ | refine v_on ?_ | refine v_og ?_ | refine v_q ?_ | refine v_sr ?_ | refine v_k ?_ | refine m_nil ?_)
      refine hlend (xs := [.agg [.int .i64 s, .int .i64 o, .lst ((rws nx).map D.lst), .lst ((rws ou).map D.lst)], .lst ((rws ws).map D.lst), .int .i64 st]) (cap := []) [(30000, 502), (30001, 503)] f3' closed_rws2 ?_ ?_
      · exact ⟨⟨rfl, rfl, trivial, trivial, trivial⟩, rfl, trivial⟩
      repeat (first | refine awp_seq ?_ | refine then_n ?_ | refine then_r ?_ | refine then_x ?_ | refine block_n ?_ | refine block_r ?_ | refine block_x ?_ | refine u_y ?_ | refine loop_r ?_ | refine loop_x ?_ | refine awp_region ?_ | refine awpL_nil ?_ | refine awpQL_nil ?_ | refine awp_block ?_ | refine awp_skip ?_ | refine awp_exit ?_ | refine awp_label ?_ | refine u_dT ?_ | refine u_d ?_ | ((first | apply c_l | apply c_q | apply c_lr | apply c_qr); (iterate 2 exact rfl); (focus (first | exact q1 | exact q3 | exact q4 | exact t1 | exact t2)); (iterate 2 exact rfl)) | (apply v_c; (iterate 4 exact rfl); (focus (first | exact q1 | exact q3 | exact q4 | exact t1 | exact t2)); (iterate 2 exact rfl)) | refine u_l ?_ | refine u_o ?_ | refine u_q ?_ | refine u_lr ?_ | refine u_qr ?_ | refine u_ls ?_ | refine u_qs ?_ | refine u_t ?_ | refine u_f ?_ | refine v_s ?_ | refine v_o ?_ | refine v_on ?_ | refine v_og ?_ | refine v_q ?_ | refine v_sr ?_ | refine v_k ?_ | refine m_nil ?_)
      refine hcl [(500, 10000), (501, 10001)] [(10000, 500), (10001, 501)] m1 ?_
      repeat (first | refine awp_seq ?_ | refine then_n ?_ | refine then_r ?_ | refine then_x ?_ | refine block_n ?_ | refine block_r ?_ | refine block_x ?_ | refine u_y ?_ | refine loop_r ?_ | refine loop_x ?_ | refine awp_region ?_ | refine awpL_nil ?_ | refine awpQL_nil ?_ | refine awp_block ?_ | refine awp_skip ?_ | refine awp_exit ?_ | refine awp_label ?_ | refine u_dT ?_ | refine u_d ?_ | refine u_l ?_ | refine u_o ?_ | refine u_q ?_ | refine u_lr ?_ | refine u_qr ?_ | refine u_ls ?_ | refine u_qs ?_ | refine u_t ?_ | refine u_f ?_ | refine v_s ?_ | refine v_o ?_ | refine v_on ?_ | refine v_og ?_ | refine v_q ?_ | refine v_sr ?_ | refine v_k ?_ | refine m_nil ?_)
      refine hcl [(506, 10000)] [(10000, 506)] m2 ?_
      repeat (first | refine awp_seq ?_ | refine then_n ?_ | refine then_r ?_ | refine then_x ?_ | refine block_n ?_ | refine block_r ?_ | refine block_x ?_ | refine u_y ?_ | refine loop_r ?_ | refine loop_x ?_ | refine awp_region ?_ | refine awpL_nil ?_ | refine awpQL_nil ?_ | refine awp_block ?_ | refine awp_skip ?_ | refine awp_exit ?_ | refine awp_label ?_ | refine u_dT ?_ | refine u_d ?_ | ((first | apply c_l | apply c_q | apply c_lr | apply c_qr); (iterate 2 exact rfl); (focus (first | exact q1)); (iterate 2 exact rfl)) | (apply v_c; (iterate 4 exact rfl); (focus (first | exact q1)); (iterate 2 exact rfl)) | refine u_l ?_ | refine u_o ?_ | refine u_q ?_ | refine u_lr ?_ | refine u_qr ?_ | refine u_ls ?_ | refine u_qs ?_ | refine u_t ?_ | refine u_f ?_ | refine v_s ?_ | refine v_o ?_ | refine v_on ?_ | refine v_og ?_ | refine v_q ?_ | refine v_sr ?_ | refine v_k ?_ | refine m_nil ?_)
      refine hcl [(502, 10000), (503, 10001)] [(10000, 502), (10001, 503)] m3 ?_
      repeat (first | refine awp_seq ?_ | refine then_n ?_ | refine then_r ?_ | refine then_x ?_ | refine block_n ?_ | refine block_r ?_ | refine block_x ?_ | refine u_y ?_ | refine loop_r ?_ | refine loop_x ?_ | refine awp_region ?_ | refine awpL_nil ?_ | refine awpQL_nil ?_ | refine awp_block ?_ | refine awp_skip ?_ | refine awp_exit ?_ | refine awp_label ?_ | refine u_dT ?_ | refine u_d ?_ | ((first | apply c_l | apply c_q | apply c_lr | apply c_qr); (iterate 2 exact rfl); (focus (first | exact d3')); (iterate 2 exact rfl)) | (apply v_c; (iterate 4 exact rfl); (focus (first | exact d3')); (iterate 2 exact rfl)) | refine u_l ?_ | refine u_o ?_ | refine u_q ?_ | refine u_lr ?_ | refine u_qr ?_ | refine u_ls ?_ | refine u_qs ?_ | refine u_t ?_ | refine u_f ?_ | refine v_s ?_ | refine v_o ?_ | refine v_on ?_ | refine v_og ?_ | refine v_q ?_ | refine v_sr ?_ | refine v_k ?_ | refine m_nil ?_)
      (apply c_l; (iterate 2 exact rfl); (focus exact t1); (iterate 2 exact rfl))
      repeat (first | refine awp_seq ?_ | refine then_n ?_ | refine then_r ?_ | refine then_x ?_ | refine block_n ?_ | refine block_r ?_ | refine block_x ?_ | refine u_y ?_ | refine loop_r ?_ | refine loop_x ?_ | refine awp_region ?_ | refine awpL_nil ?_ | refine awpQL_nil ?_ | refine awp_block ?_ | refine awp_skip ?_ | refine awp_exit ?_ | refine awp_label ?_ | refine u_dT ?_ | refine u_d ?_ | refine u_l ?_ | refine u_o ?_ | refine u_q ?_ | refine u_lr ?_ | refine u_qr ?_ | refine u_ls ?_ | refine u_qs ?_ | refine u_t ?_ | refine u_f ?_ | refine v_s ?_ | refine v_o ?_ | refine v_on ?_ | refine v_og ?_ | refine v_q ?_ | refine v_sr ?_ | refine v_k ?_ | refine m_nil ?_)
      (apply c_l; (iterate 2 exact rfl); (focus exact t2); (iterate 2 exact rfl))
      repeat (first | refine awp_seq ?_ | refine then_n ?_ | refine then_r ?_ | refine then_x ?_ | refine block_n ?_ | refine block_r ?_ | refine block_x ?_ | refine u_y ?_ | refine loop_r ?_ | refine loop_x ?_ | refine awp_region ?_ | refine awpL_nil ?_ | refine awpQL_nil ?_ | refine awp_block ?_ | refine awp_skip ?_ | refine awp_exit ?_ | refine awp_label ?_ | refine u_dT ?_ | refine u_d ?_ | refine u_l ?_ | refine u_o ?_ | refine u_q ?_ | refine u_lr ?_ | refine u_qr ?_ | refine u_ls ?_ | refine u_qs ?_ | refine u_t ?_ | refine u_f ?_ | refine v_s ?_ | refine v_o ?_ | refine v_on ?_ | refine v_og ?_ | refine v_q ?_ | refine v_sr ?_ | refine v_k ?_ | refine m_nil ?_)
      refine hcl [] [(30000, 504), (30001, 505)] f2 ?_
      repeat (first | refine awp_seq ?_ | refine then_n ?_ | refine then_r ?_ | refine then_x ?_ | refine block_n ?_ | refine block_r ?_ | refine block_x ?_ | refine u_y ?_ | refine loop_r ?_ | refine loop_x ?_ | refine awp_region ?_ | refine awpL_nil ?_ | refine awpQL_nil ?_ | refine awp_block ?_ | refine awp_skip ?_ | refine awp_exit ?_ | refine awp_label ?_ | refine u_dT ?_ | refine u_d ?_ | ((first | apply c_l | apply c_q | apply c_lr | apply c_qr); (iterate 2 exact rfl); (focus (first | exact q1 | exact d3')); (iterate 2 exact rfl)) | (apply v_c; (iterate 4 exact rfl); (focus (first | exact q1 | exact d3')); (iterate 2 exact rfl)) | refine u_l ?_ | refine u_o ?_ | refine u_q ?_ | refine u_lr ?_ | refine u_qr ?_ | refine u_ls ?_ | refine u_qs ?_ | refine u_t ?_ | refine u_f ?_ | refine v_s ?_ | refine v_o ?_ | refine v_on ?_ | refine v_og ?_ | refine v_q ?_ | refine v_sr ?_ | refine v_k ?_ | refine m_nil ?_)
      (refine awp_ret ?_; (repeat (first | refine then_r ?_ | refine block_r ?_ | refine loop_r ?_)); apply ret_ok (.inr rfl); (focus exact rfl))
      rfl

end Go.Proofs.Ytkomkhigcdkpdaa
