/- The law of deeds: they are read from their texts, and are done just if no error is told for them. Condition: the variables of strconv are laid. -/
import Derived.Test.YtffmlijngfhhaaaGreatDoorQd
import Derived.Test.YtffmlijngfhhaaaGreatDoorRq
import Derived.Test.YtffmlijngfhhaaaGreatDoorFwSe
namespace Go.Proofs.YtffmlijngfhhaaaGreatDoor
open Go
attribute [local irreducible] awp awpL awpQL awpQ awpM pWalk Qt AC thenQ blockQ loopQ OpTo
set_option linter.unusedVariables false
set_option linter.unusedSimpArgs false
set_option maxHeartbeats 2000000
attribute [local irreducible] HC

/-! ### Plain -/
theorem doneF_all {cs : List Int} : (∀ j (hj : j < cs.length), cs[j] = 0) → doneF cs = cs.length := by
  induction cs with
  | nil => exact fun _ => rfl
  | cons c cs ih =>
    intro h
    have h0 : c = 0 := h 0 (by simp)
    have := ih fun j hj => by have := h (j + 1) (by simpa using hj); simpa using this
    simp only [doneF, h0, if_pos, this, List.length_cons]
    omega
theorem doneF_lt {cs : List Int} {k : Nat} : (hk : k < cs.length) → cs[k] ≠ 0 → doneF cs < cs.length := by
  induction cs generalizing k with
  | nil => intro hk; simp at hk
  | cons c cs ih =>
    intro hk h
    have hle := doneF_le cs
    cases k with
    | zero =>
      have h : c ≠ 0 := h
      simp only [doneF, if_neg h, List.length_cons]
      omega
    | succ k =>
      have := ih (k := k) (by simpa using hk) (by simpa using h)
      simp only [doneF, List.length_cons]
      split <;> omega
theorem firstNz (cs : List Int) : (∀ j (hj : j < cs.length), cs[j] = 0) ∨ ∃ k, ∃ hk : k < cs.length, (∀ j, j < k → (hj : j < cs.length) → cs[j] = 0) ∧ ¬ cs[k] = 0 := by
  induction cs with
  | nil => exact .inl fun j hj => by simp at hj
  | cons c cs ih =>
    by_cases hc : c = 0
    · rcases ih with h | ⟨k, hk, h1, h2⟩
      · refine .inl fun j hj => ?_
        cases j with
        | zero => exact hc
        | succ j => simpa using h j (by simpa using hj)
      · refine .inr ⟨k + 1, by simpa using hk, fun j hj hjl => ?_, by simpa using h2⟩
        cases j with
        | zero => exact hc
        | succ j => simpa using h1 j (by omega) (by simpa using hjl)
    · exact .inr ⟨0, by simp, fun j hj => by omega, hc⟩
theorem codes_take {s : Int} {nx : List (List Int)} {lp : List Int} (ds : List (Int × Int)) (n : Ln) (k : Nat) : codesF s nx lp n (ds.take k) = (codesF s nx lp n ds).take k := by
  have h := codesF_append (s := s) (nx := nx) (lp := lp) (ds.take k) (ds.drop k) n
  rw [List.take_append_drop] at h
  by_cases hk : k ≤ ds.length
  · have : (codesF s nx lp n (ds.take k)).length = k := by rw [codesF_len, List.length_take]; omega
    rw [h, List.take_append_of_le_length (by omega), List.take_of_length_le (l := codesF s nx lp n (ds.take k)) (by omega)]
  · rw [List.take_of_length_le (l := ds) (by omega), List.take_of_length_le (by rw [codesF_len]; omega)]
theorem done_take {cs : List Int} {k : Nat} (hk : k < cs.length) (h1 : ∀ j, j < k → (hj : j < cs.length) → cs[j] = 0) (h2 : ¬ cs[k] = 0) : doneF (cs.take k) = k ∧ doneF (cs.take (k + 1)) = k := by
  have h3 : doneF (cs.take k) = k := by
    rw [doneF_all fun j hj => by
      rw [List.length_take] at hj
      rw [List.getElem_take]
      exact h1 j (by omega) (by omega), List.length_take]
    omega
  refine ⟨h3, ?_⟩
  rw [List.take_succ_eq_append_getElem hk, doneF_append, h3]
  simp [doneF, h2]

theorem flat_dd : flatS Tryz.prog 44 [false, false] = true := by kernel_rfl
theorem qa_neqDd {cx : Cx} {h : Heap} {s : Nat → SV} {dst : Option Nat} {ty : Nat} {pos : String} {af : Array Edge} {gd : Option (Nat × Bool)} {t t' : Nat} {x y : Operand} {xs ys : List D} (hx : opv s x = .d (.agg xs)) (hy : opv s y = .d (.agg ys)) (ht : t = 44) (hP : cx.P = Tryz.prog) (h1 : flatD [false, false] xs = true) (h2 : flatD [false, false] ys = true) :
    Qt cx h ⟨dst, .binOp .neq t x y t', ty, pos, af, gd⟩ s (.d (.bool (!eqD xs ys))) := by
  subst ht
  exact qa_neqS [false, false] hx hy (by rw [hP]; exact flat_dd) h1 h2

/-! ### The law -/
theorem law_FnDeeds {code more : List Int} (hb : BytesOk code) (hm : BytesOk more) : AC Tryz.prog 3 [u8s code, u8s more] (.bool true) := by
  have eL := laws_a2Long (a := code) (b := more)
  by_cases hl : (decide (3000 < code.length) || decide (3000 < more.length)) = true
  · rw [hl] at eL
    refine ac_intro tabIs _ Tryz.func3 rfl rfl Tryz.ntmps3 rfl rfl fun w0 ok0 he0 => ?_
    repeat (first | refine awp_seq ?_ | refine then_n ?_ | refine then_r ?_ | refine then_x ?_ | refine block_n ?_ | refine block_r ?_ | refine block_x ?_ | refine u_y ?_ | refine loop_r ?_ | refine loop_x ?_ | refine awp_region ?_ | refine awpL_nil ?_ | refine awpQL_nil ?_ | refine awp_block ?_ | refine awp_skip ?_ | refine awp_exit ?_ | refine awp_label ?_ | refine u_dT ?_ | refine u_d ?_ | ((first | apply c_l | apply c_q | apply c_lr | apply c_qr); (iterate 2 exact rfl); (focus (first | exact eL)); (iterate 2 exact rfl)) | (apply v_c; (iterate 4 exact rfl); (focus (first | exact eL)); (iterate 2 exact rfl)) | refine u_l ?_ | refine u_o ?_ | refine u_q ?_ | refine u_lr ?_ | refine u_qr ?_ | refine u_ls ?_ | refine u_qs ?_ | refine u_t ?_ | refine u_f ?_ | refine v_s ?_ | refine v_o ?_ | refine v_on ?_ | refine v_og ?_ | refine v_q ?_ | refine v_sr ?_ | refine v_k ?_ | refine m_nil ?_)
    (refine awp_ret ?_; (repeat (first | refine then_r ?_ | refine block_r ?_ | refine loop_r ?_)); apply ret_ok (.inr rfl); (focus exact rfl))
    rfl
  · rw [Bool.not_eq_true] at hl
    rw [hl] at eL
    have eA := spec_A2Lit hb
    have hv := drawn_ok hb
    generalize (drA code ⟨0, 0⟩).1 = s at *
    generalize (drA code ⟨0, 0⟩).2.1 = nx at *
    generalize (drP code ⟨0, 0⟩).1 = lp at *
    have v := lv_of hv
    have hs1 := v.s1
    have eT := laws_a2At (b := more) (n := s) hm (by omega)
    have hst := atV_range (b := more) (n := s) (by omega)
    generalize atV more s = st at *
    have eD := spec_A2Deeds (s := s) (st := st) (nx := nx) (lp := lp) hm hv hst
    obtain ⟨hdl, hdv⟩ := dsV_ok (code := more) (s := s) (st := st) (nx := nx) (lp := lp) hm hv hst
    generalize dsV more s st nx lp = ds at *
    have hle : (ds.map deedD).length = ds.length := by simp
    have c1 := impl_LineAfter hv hst hdv (by omega)
    have c2 := impl_RefusedDeed (s := s) (st := st) (nx := nx) (lp := lp) (ds := ds) (rowsOk_of v) (by have := v.lp; omega) (by omega)
    have c3 : ∀ k : Nat, AC Tryz.prog 11 [ltD s nx lp, .int .i64 st, .lst ((ds.map deedD).take ((k : Nat) : Int).toNat)] (.tup [.agg (lnL (runF s nx lp (ln0 s st) (ds.take k))), .int .i64 (doneF ((codesF s nx lp (ln0 s st) ds).take k) : Nat), .int .i64 0]) := fun k => by
      have := impl_LineAfter (ds := ds.take k) hv hst (fun p hp => hdv p (List.mem_of_mem_take hp)) (by rw [List.length_take]; omega)
      rw [codes_take] at this
      have hmt : deedsD (ds.take k) = .lst ((ds.map deedD).take ((k : Nat) : Int).toNat) := by unfold deedsD; rw [List.map_take]; rfl
      rw [hmt] at this
      exact this
    unfold rfD at c2
    rw [if_pos (ask_of hv hst hdv (by omega))] at c2
    have hcl := codesF_len (s := s) (nx := nx) (lp := lp) ds (ln0 s st)
    generalize codesF s nx lp (ln0 s st) ds = cs at *
    have hdle := doneF_le cs
    have hel : elsOk 2 (ds.map deedD) = true := elsOk_of fun y hy => by
      obtain ⟨p, _, rfl⟩ := List.mem_map.1 hy
      exact ⟨rfl, rfl⟩
    have hr : ∃ k : Nat, k ≤ ds.length ∧ ((rfF cs 0 = (0, 0, 6) ∧ (doneF cs : Int) = ds.length) ∨ ∃ c : Int, c ≠ 0 ∧ k < ds.length ∧ rfF cs 0 = (((k : Nat) : Int), c, 0) ∧ (doneF cs : Int) < ds.length ∧ doneF (cs.take k) = k ∧ doneF (cs.take (k + 1)) = k) := by
      rcases firstNz cs with h | ⟨k, hk, h1, h2⟩
      · exact ⟨0, by omega, .inl ⟨rfF_no cs 0 h, by rw [doneF_all h]; omega⟩⟩
      · have e := rfF_at cs 0 k hk h1 h2
        rw [Int.zero_add] at e
        have h3 := doneF_lt hk h2
        obtain ⟨d1, d2⟩ := done_take hk h1 h2
        exact ⟨k, by omega, .inr ⟨cs[k], h2, by omega, e, by omega, d1, d2⟩⟩
    obtain ⟨k, hk, hr⟩ := hr
    generalize rfF cs 0 = q at *
    have c4 := c3 k
    have c5 := c3 (k + 1)
    have hL1 : ∃ L : Ln, L = runF s nx lp (ln0 s st) ds := ⟨_, rfl⟩
    generalize runF s nx lp (ln0 s st) ds = L at *
    generalize runF s nx lp (ln0 s st) (ds.take k) = L1 at *
    generalize runF s nx lp (ln0 s st) (ds.take (k + 1)) = L2 at *
    clear c3 hL1
    have rdx : ∀ p ∈ ds, AC Tryz.prog 14 [.agg [.int .i64 p.1, .int .i64 p.2]] (.str (dtxt p.1 p.2)) ∧ AC Tryz.prog 13 [.str (dtxt p.1 p.2)] (.tup [.agg [.int .i64 p.1, .int .i64 p.2], .int .i64 0]) ∧ AC Tryz.prog 15 [.agg [.int .i64 p.1, .int .i64 p.2]] (.bool true) := fun p hp => by
      have hv := hdv p hp
      have e1 := impl_ReadDeed (l := dtxt p.1 p.2) (by have := dtxt_len p.1 p.2 hv; omega)
      have e2 := impl_ValidDeed (k := p.1) (a := p.2)
      rw [hv] at e2
      unfold rdV at e1
      rw [rd_dtxt hv] at e1
      exact ⟨impl_DeedText, e1, e2⟩
    clear hdv
    unfold ltD deedsD at *
    unfold lnL at *
    refine ac_intro tabIs _ Tryz.func3 rfl rfl Tryz.ntmps3 rfl rfl fun w0 ok0 he0 => ?_
    repeat (first | refine awp_seq ?_ | refine then_n ?_ | refine then_r ?_ | refine then_x ?_ | refine block_n ?_ | refine block_r ?_ | refine block_x ?_ | refine u_y ?_ | refine loop_r ?_ | refine loop_x ?_ | refine awp_region ?_ | refine awpL_nil ?_ | refine awpQL_nil ?_ | refine awp_block ?_ | refine awp_skip ?_ | refine awp_exit ?_ | refine awp_label ?_ | refine u_dT ?_ | refine u_d ?_ | ((first | apply c_l | apply c_q | apply c_lr | apply c_qr); (iterate 2 exact rfl); (focus (first | exact eL | exact eA | exact eT | exact eD | exact c1 | exact c2)); (iterate 2 exact rfl)) | (apply v_c; (iterate 4 exact rfl); (focus (first | exact eL | exact eA | exact eT | exact eD | exact c1 | exact c2)); (iterate 2 exact rfl)) | refine u_l ?_ | refine u_o ?_ | refine u_q ?_ | refine u_lr ?_ | refine u_qr ?_ | refine u_ls ?_ | refine u_qs ?_ | refine u_t ?_ | refine u_f ?_ | refine v_s ?_ | refine v_o ?_ | refine v_on ?_ | refine v_og ?_ | refine v_q ?_ | refine v_sr ?_ | refine v_k ?_ | refine m_nil ?_)
    refine awp_freezeB 8 rfl rfl rfl ?_
    refine awp_sub (s' := [(5, .ref 5 0), (6, .d (.int .i64 st)), (7, .d (.lst (ds.map deedD))), (9, .d (.int .i64 (doneF cs : Nat))), (11, .d (.int .i64 q.1)), (12, .d (.int .i64 q.2.1)), (13, .d (.int .i64 q.2.2)), (14, .d (.int .i64 0))]) (by ((repeat (first | exact trivial | (refine ⟨?_, ?_⟩; (focus (first | rfl | (simp [lk, argsS, args0]; done) | (simp [lk, argsS, args0]; omega)))))))) ?_
    refine awp_permTo [(5, .box [.d (.int .i64 s), .d (rows nx), .d (ints lp)])] rfl ?_
    refine awp_loop (fun i : Nat => i ≤ ds.length) (fun i => [(5, .ref 5 0), (6, .d (.int .i64 st)), (7, .d (.lst (ds.map deedD))), (9, .d (.int .i64 (doneF cs : Nat))), (11, .d (.int .i64 q.1)), (12, .d (.int .i64 q.2.1)), (13, .d (.int .i64 q.2.2)), (14, .d (.int .i64 i))]) (fun i => [(5, .box [.d (.int .i64 s), .d (rows nx), .d (ints lp)])]) (fun i => ds.length - i) 0 (by omega) ?_ rfl ?_
    · ((repeat (first | exact trivial | (refine ⟨?_, ?_⟩; (focus (first | rfl | (simp [lk, argsS, args0]; done) | (simp [lk, argsS, args0]; omega)))))))
    · intro i hi
      by_cases hlt : i < ds.length
      · have hx := el_deed hlt
        obtain ⟨r1, r2, r3⟩ := rdx ds[i] (List.getElem_mem hlt)
        have hq := eqD_refl (bs := [false, false]) (xs := [.int .i64 ds[i].1, .int .i64 ds[i].2]) rfl
        have hq2 : (!eqD [.int .i64 ds[i].1, .int .i64 ds[i].2] [.int .i64 ds[i].1, .int .i64 ds[i].2]) = false := by rw [hq]; rfl
        generalize dtxt ds[i].1 ds[i].2 = tx at *
        generalize ds[i] = p at *
        repeat (first | refine awp_seq ?_ | refine then_n ?_ | refine then_r ?_ | refine then_x ?_ | refine block_n ?_ | refine block_r ?_ | refine block_x ?_ | refine u_y ?_ | refine loop_r ?_ | refine loop_x ?_ | refine awp_region ?_ | refine awpL_nil ?_ | refine awpQL_nil ?_ | refine awp_block ?_ | refine awp_skip ?_ | refine awp_exit ?_ | refine awp_label ?_ | ((first | apply c_l | apply c_q | apply c_lr | apply c_qr); (iterate 2 exact rfl); (focus (first | exact r1 | exact r2)); (iterate 2 exact rfl)) | (apply v_c; (iterate 4 exact rfl); (focus (first | exact r1 | exact r2)); (iterate 2 exact rfl)) | refine u_l ?_ | refine u_o ?_ | refine u_q ?_ | refine u_lr ?_ | refine u_qr ?_ | refine u_ls ?_ | refine u_qs ?_ | refine u_t ?_ | refine u_f ?_ | refine v_s ?_ | refine v_o ?_ | refine v_on ?_ | refine v_og ?_ | refine v_q ?_ | refine v_sr ?_ | refine v_k ?_ | refine m_nil ?_)
        refine awp_freezeB 15 rfl rfl rfl ?_
        repeat (first | refine awp_seq ?_ | refine then_n ?_ | refine then_r ?_ | refine then_x ?_ | refine block_n ?_ | refine block_r ?_ | refine block_x ?_ | refine u_y ?_ | refine loop_r ?_ | refine loop_x ?_ | refine awp_region ?_ | refine awpL_nil ?_ | refine awpQL_nil ?_ | refine awp_block ?_ | refine awp_skip ?_ | refine awp_exit ?_ | refine awp_label ?_ | refine u_dT ?_ | refine u_d ?_ | ((first | apply x_l | apply x_q | apply x_lr | apply x_qr); (focus (first | (apply qa_neqDd; (iterate 6 (focus (first | exact rfl | (first | assumption | omega | (simp; omega) | (simp; done) | rfl))))))); exact rfl) | ((first | apply c_l | apply c_q | apply c_lr | apply c_qr); (iterate 2 exact rfl); (focus (first | exact r3)); (iterate 2 exact rfl)) | (apply v_x; (iterate 2 exact rfl); (focus (intro ok0 nw hle; (first | (apply qa_neqDd; (iterate 6 (focus (first | exact rfl | (first | assumption | omega | (simp; omega) | (simp; done) | rfl)))))))); (iterate 2 exact rfl)) | (apply v_c; (iterate 4 exact rfl); (focus (first | exact r3)); (iterate 2 exact rfl)) | refine u_l ?_ | refine u_o ?_ | refine u_q ?_ | refine u_lr ?_ | refine u_qr ?_ | refine u_ls ?_ | refine u_qs ?_ | refine u_t ?_ | refine u_f ?_ | refine v_s ?_ | refine v_o ?_ | refine v_on ?_ | refine v_og ?_ | refine v_q ?_ | refine v_sr ?_ | refine v_k ?_ | refine m_nil ?_ | refine u_glt ?_ | refine u_glf ?_ | refine u_gqt ?_ | refine u_gqf ?_)
        refine loop_n (i + 1) (by omega) ?_ rfl (by omega)
        ((repeat (first | exact trivial | (refine ⟨?_, ?_⟩; (focus (first | rfl | (simp [lk, argsS, args0]; done) | (simp [lk, argsS, args0]; omega)))))))
      · have : i = ds.length := by omega
        subst this
        rcases hr with ⟨e1, e2⟩ | ⟨c, hc0, hkl, e1, e2, e3, e4⟩
        · subst e1
          have hd : decide (((doneF cs : Nat) : Int) = (ds.map deedD).length) = true := decide_eq_true (by omega)
          repeat (first | refine awp_seq ?_ | refine then_n ?_ | refine then_r ?_ | refine then_x ?_ | refine block_n ?_ | refine block_r ?_ | refine block_x ?_ | refine u_y ?_ | refine loop_r ?_ | refine loop_x ?_ | refine awp_region ?_ | refine awpL_nil ?_ | refine awpQL_nil ?_ | refine awp_block ?_ | refine awp_skip ?_ | refine awp_exit ?_ | refine awp_label ?_ | refine u_dT ?_ | refine u_d ?_ | refine u_l ?_ | refine u_o ?_ | refine u_q ?_ | refine u_lr ?_ | refine u_qr ?_ | refine u_ls ?_ | refine u_qs ?_ | refine u_t ?_ | refine u_f ?_ | refine v_s ?_ | refine v_o ?_ | refine v_on ?_ | refine v_og ?_ | refine v_q ?_ | refine v_sr ?_ | refine v_k ?_ | refine m_nil ?_ | refine u_glt ?_ | refine u_glf ?_ | refine u_gqt ?_ | refine u_gqf ?_)
          (refine awp_ret ?_; (repeat (first | refine then_r ?_ | refine block_r ?_ | refine loop_r ?_)); apply ret_ok (.inr rfl); (focus exact rfl))
          rfl
        · subst e1
          have hk1 : ((k : Nat) : Int) + 1 = ((k + 1 : Nat) : Int) := by omega
          rw [← hk1] at c5
          rw [e3] at c4
          rw [e4] at c5
          have hd : decide (((doneF cs : Nat) : Int) = (ds.map deedD).length) = false := decide_eq_false (by omega)
          have hdc : decide (c = 0) = false := decide_eq_false hc0
          repeat (first | refine awp_seq ?_ | refine then_n ?_ | refine then_r ?_ | refine then_x ?_ | refine block_n ?_ | refine block_r ?_ | refine block_x ?_ | refine u_y ?_ | refine loop_r ?_ | refine loop_x ?_ | refine awp_region ?_ | refine awpL_nil ?_ | refine awpQL_nil ?_ | refine awp_block ?_ | refine awp_skip ?_ | refine awp_exit ?_ | refine awp_label ?_ | refine u_l ?_ | refine u_o ?_ | refine u_q ?_ | refine u_lr ?_ | refine u_qr ?_ | refine u_ls ?_ | refine u_qs ?_ | refine u_t ?_ | refine u_f ?_ | refine v_s ?_ | refine v_o ?_ | refine v_on ?_ | refine v_og ?_ | refine v_q ?_ | refine v_sr ?_ | refine v_k ?_ | refine m_nil ?_ | refine u_glt ?_ | refine u_glf ?_ | refine u_gqt ?_ | refine u_gqf ?_)
          refine u_m [(10, [17]), (11, [17])] (.tk [17] [0, 1, 2, 3, 4, 5, 6, 7, 8, 9] (.tk [] [10, 11, 12, 13] .done)) ?_
          repeat (first | refine awp_seq ?_ | refine then_n ?_ | refine then_r ?_ | refine then_x ?_ | refine block_n ?_ | refine block_r ?_ | refine block_x ?_ | refine u_y ?_ | refine loop_r ?_ | refine loop_x ?_ | refine awp_region ?_ | refine awpL_nil ?_ | refine awpQL_nil ?_ | refine awp_block ?_ | refine awp_skip ?_ | refine awp_exit ?_ | refine awp_label ?_ | ((first | apply x_l | apply x_q | apply x_lr | apply x_qr); (focus (first | (apply qa_slice_h; (iterate 8 (focus (first | exact rfl | (first | assumption | omega | (simp; omega) | (simp; done) | rfl))))))); exact rfl) | ((first | apply c_l | apply c_q | apply c_lr | apply c_qr); (iterate 2 exact rfl); (focus (first | exact c4)); (iterate 2 exact rfl)) | (apply v_x; (iterate 2 exact rfl); (focus (intro ok0 nw hle; (first | (apply qa_slice_h; (iterate 8 (focus (first | exact rfl | (first | assumption | omega | (simp; omega) | (simp; done) | rfl)))))))); (iterate 2 exact rfl)) | (apply v_c; (iterate 4 exact rfl); (focus (first | exact c4)); (iterate 2 exact rfl)) | refine u_l ?_ | refine u_o ?_ | refine u_q ?_ | refine u_lr ?_ | refine u_qr ?_ | refine u_ls ?_ | refine u_qs ?_ | refine u_t ?_ | refine u_f ?_ | refine v_s ?_ | refine v_o ?_ | refine v_on ?_ | refine v_og ?_ | refine v_q ?_ | refine v_sr ?_ | refine v_k ?_ | refine m_nil ?_)
          refine awp_freezeB 17 rfl rfl rfl ?_
          refine awp_sub (s' := [(5, .ref 5 0), (6, .d (.int .i64 st)), (7, .d (.lst (ds.map deedD))), (11, .d (.int .i64 k)), (18, .d (.int .i64 k)), (19, .d (.int .i64 0))]) (by ((repeat (first | exact trivial | (refine ⟨?_, ?_⟩; (focus (first | rfl | (simp [lk, argsS, args0]; done) | (simp [lk, argsS, args0]; omega)))))))) ?_
          refine awp_permTo [(5, .box [.d (.int .i64 s), .d (rows nx), .d (ints lp)])] rfl ?_
          refine u_m [(11, [20]), (12, [20])] (.tk [20] [0, 1, 2, 3, 4, 5, 6, 7, 8, 9, 10] (.tk [] [11, 12, 13, 14] .done)) ?_
          repeat (first | refine awp_seq ?_ | refine then_n ?_ | refine then_r ?_ | refine then_x ?_ | refine block_n ?_ | refine block_r ?_ | refine block_x ?_ | refine u_y ?_ | refine loop_r ?_ | refine loop_x ?_ | refine awp_region ?_ | refine awpL_nil ?_ | refine awpQL_nil ?_ | refine awp_block ?_ | refine awp_skip ?_ | refine awp_exit ?_ | refine awp_label ?_ | ((first | apply x_l | apply x_q | apply x_lr | apply x_qr); (focus (first | (apply qa_slice_h; (iterate 8 (focus (first | exact rfl | (first | assumption | omega | (simp; omega) | (simp; done) | rfl))))))); exact rfl) | ((first | apply c_l | apply c_q | apply c_lr | apply c_qr); (iterate 2 exact rfl); (focus (first | exact c5)); (iterate 2 exact rfl)) | (apply v_x; (iterate 2 exact rfl); (focus (intro ok0 nw hle; (first | (apply qa_slice_h; (iterate 8 (focus (first | exact rfl | (first | assumption | omega | (simp; omega) | (simp; done) | rfl)))))))); (iterate 2 exact rfl)) | (apply v_c; (iterate 4 exact rfl); (focus (first | exact c5)); (iterate 2 exact rfl)) | refine u_l ?_ | refine u_o ?_ | refine u_q ?_ | refine u_lr ?_ | refine u_qr ?_ | refine u_ls ?_ | refine u_qs ?_ | refine u_t ?_ | refine u_f ?_ | refine v_s ?_ | refine v_o ?_ | refine v_on ?_ | refine v_og ?_ | refine v_q ?_ | refine v_sr ?_ | refine v_k ?_ | refine m_nil ?_ | refine u_glt ?_ | refine u_glf ?_ | refine u_gqt ?_ | refine u_gqf ?_)
          (refine awp_ret ?_; (repeat (first | refine then_r ?_ | refine block_r ?_ | refine loop_r ?_)); apply ret_ok (.inr rfl); (focus exact rfl))
          simp
end Go.Proofs.YtffmlijngfhhaaaGreatDoor
