/- Machines: the automaton behind one, and the law of their texts. Condition: the variables of strconv are laid. -/
import Derived.Test.YtffmlijngfhhaaaGreatDoorMu
import Derived.Test.YtffmlijngfhhaaaGreatDoorMw
namespace Go.Proofs.YtffmlijngfhhaaaGreatDoor
open Go
attribute [local irreducible] awp awpL awpQL awpQ awpM pWalk Qt AC thenQ blockQ loopQ OpTo
set_option linter.unusedVariables false
set_option linter.unusedSimpArgs false
set_option maxHeartbeats 2000000
attribute [local irreducible] HC
open Go.Lib (itoa)

theorem impl_renumbered {s o : Int} {nx ou : List (List Int)} (m : MV s o nx ou) : AC Tryz.prog 75 [.agg [.int .i64 s, rows nx], ints (mk1 0 s.toNat)] (.agg [.int .i64 s, rows nx]) := by
  have hs1 := m.s1
  have hn1 := m.n1
  have hL : (mk1 0 s.toNat).length = s.toNat := mk1_length _ _
  have hsz := impl_size1 (ns := mk1 0 s.toNat)
  rw [hL, show ((s.toNat : Nat) : Int) = s by omega] at hsz
  have hg : ∀ i : Nat, i < s.toNat → (List.map (D.int .i64) (mk1 0 s.toNat))[(i : Int).toNat]? = some (.int .i64 i) := fun i hi => by simp [mk1_get s.toNat 0 i hi]
  have hm : (List.map (D.int .i64) (mk1 0 s.toNat)).length = s.toNat := by simp [hL]
  have mm1 : (List.map ints nx).length = nx.length := by simp
  have hix : ∀ v : Int, 0 ≤ v → v < s → AC Tryz.prog 131 [ints (mk1 0 s.toNat), .int .i64 v] (.int .i64 v) := fun v h1 h2 => by
    have hget : ∀ j (h : j < (mk1 0 s.toNat).length), (mk1 0 s.toNat)[j] = (j : Int) := fun j h => by
      have := mk1_get s.toNat 0 j (by omega)
      rw [List.getElem?_eq_getElem h] at this
      have := Option.some.inj this
      omega
    have := slIdxM (l := mk1 0 s.toNat) (q := v) (k0 := v.toNat) (by omega) (by omega) (by rw [hget]; omega) (fun d hd => by rw [hget]; omega)
    rw [show ((v.toNat : Nat) : Int) = v by omega] at this
    exact this
  generalize mk1 0 s.toNat = L at *
  refine ac_introC tabIs _ Tryz.func75 rfl rfl Tryz.ntmps75 rfl rfl fun w0 ok0 he0 => ?_
  repeat (first | refine awp_seq ?_ | refine then_n ?_ | refine then_r ?_ | refine then_x ?_ | refine block_n ?_ | refine block_r ?_ | refine block_x ?_ | refine u_y ?_ | refine loop_r ?_ | refine loop_x ?_ | refine awp_region ?_ | refine awpL_nil ?_ | refine awpQL_nil ?_ | refine awp_block ?_ | refine awp_skip ?_ | refine awp_exit ?_ | refine awp_label ?_ | refine u_dT ?_ | refine u_d ?_ | ((first | apply c_l | apply c_q | apply c_lr | apply c_qr); (iterate 2 exact rfl); (focus (first | exact hsz)); (iterate 2 exact rfl)) | (apply v_c; (iterate 4 exact rfl); (focus (first | exact hsz)); (iterate 2 exact rfl)) | refine u_l ?_ | refine u_o ?_ | refine u_q ?_ | refine u_lr ?_ | refine u_qr ?_ | refine u_ls ?_ | refine u_qs ?_ | refine u_t ?_ | refine u_f ?_ | refine v_s ?_ | refine v_o ?_ | refine v_on ?_ | refine v_og ?_ | refine v_q ?_ | refine v_sr ?_ | refine v_k ?_ | refine m_nil ?_)
  refine awp_nilCell 5 1 300 27 1 (by exact rfl) (by exact rfl) rfl rfl rfl ?_
  refine awp_toRows 300 2 1 rfl rfl rfl rfl ?_
  refine awp_sub (s' := [(1, .d (ints L)), (2, .d (.ptr (.agg [.int .i64 s, rows nx]))), (4, .ref 4 0), (5, .ref 5 0), (15, .d (rows nx)), (16, .d (.int .i64 (List.map ints nx).length)), (17, .d (.int .i64 0))]) (by ((repeat (first | exact trivial | (refine ⟨?_, ?_⟩; (focus (first | rfl | (simp [lk, argsS, args0]; done) | (simp [lk, argsS, args0]; omega)))))))) ?_
  refine awp_permTo [(300, .rows 27 2 1 [] none), (4, .box [.d (.int .i64 0), .d .nils]), (5, .box [.d (.int .i64 s), .own 300])] rfl ?_
  refine awp_loop (fun k : Nat => k ≤ nx.length) (fun k => [(1, .d (ints L)), (2, .d (.ptr (.agg [.int .i64 s, rows nx]))), (4, .ref 4 0), (5, .ref 5 0), (15, .d (rows nx)), (16, .d (.int .i64 (List.map ints nx).length)), (17, .d (.int .i64 k))])
    (fun k => [(300, .rows 27 2 1 (rws (nx.take k)) none), (4, .box [.d (.int .i64 0), .d .nils]), (5, .box [.d (.int .i64 s), .own 300])]) (fun k => nx.length - k) 0 (by omega) ?_ rfl ?_
  · ((repeat (first | exact trivial | (refine ⟨?_, ?_⟩; (focus (first | rfl | (simp [lk, argsS, args0]; done) | (simp [lk, argsS, args0]; omega)))))))
  · intro k hk
    have hrl1 : (rws (nx.take k)).length = k := by rw [rws_length]; simp; omega
    by_cases hlt : k < nx.length
    · have hkl : 0 ≤ (k : Int) ∧ (k : Int) < nx.length := by omega
      have rl1 : ((row nx k).length : Int) = s := tbl_row m.nx hkl
      have g1 := el_row2 (xs := nx) hkl
      have x1 : row nx k = nx[k] := row_eq hlt
      have t1 := rws_take hlt
      have hrb := fun i (hi : ((i : Nat) : Int) < s) => m.nx _ (row_mem (xs := nx) (l := (k : Int)) (by omega))
      repeat (first | refine v_w (t := 21) ?_ | refine awp_seq ?_ | refine then_n ?_ | refine then_r ?_ | refine then_x ?_ | refine block_n ?_ | refine block_r ?_ | refine block_x ?_ | refine u_y ?_ | refine loop_r ?_ | refine loop_x ?_ | refine awp_region ?_ | refine awpL_nil ?_ | refine awpQL_nil ?_ | refine awp_block ?_ | refine awp_skip ?_ | refine awp_exit ?_ | refine awp_label ?_ | refine u_dT ?_ | refine u_d ?_ | refine u_w (t := 21) ?_ | refine u_l ?_ | refine u_o ?_ | refine u_q ?_ | refine u_lr ?_ | refine u_qr ?_ | refine u_ls ?_ | refine u_qs ?_ | refine u_t ?_ | refine u_f ?_ | refine v_s ?_ | refine v_o ?_ | refine v_on ?_ | refine v_og ?_ | refine v_q ?_ | refine v_sr ?_ | refine v_k ?_ | refine m_nil ?_)
      refine awp_loop (fun i : Nat => (i : Int) ≤ s) (fun i => [(1, .d (ints L)), (2, .d (.ptr (.agg [.int .i64 s, rows nx]))), (4, .ref 4 0), (5, .ref 5 0), (7, .d (ints (row nx k))), (8, .own 21), (15, .d (rows nx)), (16, .d (.int .i64 (List.map ints nx).length)), (17, .d (.int .i64 k)), (22, .d (ints L)), (23, .d (.int .i64 (List.map (D.int .i64) L).length)), (24, .d (.int .i64 i))])
        (fun i => [(21, .arr 2 1 (((row nx k).take i).map (.int .i64))), (300, .rows 27 2 1 (rws (nx.take k)) none), (4, .box [.d (.int .i64 0), .d .nils]), (5, .box [.d (.int .i64 s), .own 300])]) (fun i => s.toNat - i) 0 (by omega) ?_ rfl ?_
      · ((repeat (first | exact trivial | (refine ⟨?_, ?_⟩; (focus (first | rfl | (simp [lk, argsS, args0]; done) | (simp [lk, argsS, args0]; omega)))))))
      · intro i hi
        by_cases hli : (i : Int) < s
        · have hgi := hg i (by omega)
          have y1 := el_int2 (ns := row nx k) (q := (i : Int)) (by omega)
          have z1 := ints_take (ns := row nx k) (k := i) (by omega)
          have w1 : (row nx k).getD (i : Int).toNat 0 = (row nx k)[i]'(by omega) := by simp [List.getD_eq_getElem?_getD, show i < (row nx k).length by omega]
          have l1 : (((row nx k).take i).map (D.int .i64)).length = i := by simp; omega
          have l3 : ((row nx k).take i).length = i := by simp; omega
          have hb := (hrb i hli).2 _ (get_mem2 (q := (i : Int)) (by omega))
          rw [← w1] at z1
          clear w1
          generalize (row nx k).getD (i : Int).toNat 0 = x at *
          have c1 := hix x hb.1 hb.2
          repeat (first | refine awp_seq ?_ | refine then_n ?_ | refine then_r ?_ | refine then_x ?_ | refine block_n ?_ | refine block_r ?_ | refine block_x ?_ | refine u_y ?_ | refine loop_r ?_ | refine loop_x ?_ | refine awp_region ?_ | refine awpL_nil ?_ | refine awpQL_nil ?_ | refine awp_block ?_ | refine awp_skip ?_ | refine awp_exit ?_ | refine awp_label ?_ | refine u_dT ?_ | refine u_d ?_ | ((first | apply c_l | apply c_q | apply c_lr | apply c_qr); (iterate 2 exact rfl); (focus (first | exact c1)); (iterate 2 exact rfl)) | (apply v_c; (iterate 4 exact rfl); (focus (first | exact c1)); (iterate 2 exact rfl)) | refine u_l ?_ | refine u_o ?_ | refine u_q ?_ | refine u_lr ?_ | refine u_qr ?_ | refine u_ls ?_ | refine u_qs ?_ | refine u_t ?_ | refine u_f ?_ | refine v_s ?_ | refine v_o ?_ | refine v_on ?_ | refine v_og ?_ | refine v_q ?_ | refine v_sr ?_ | refine v_k ?_ | refine m_nil ?_)
          refine loop_n (i + 1) (by omega) ?_ ?_ (by omega)
          · ((repeat (first | exact trivial | (refine ⟨?_, ?_⟩; (focus (first | rfl | (simp [lk, argsS, args0]; done) | (simp [lk, argsS, args0]; omega)))))))
          · rw [← z1]; rfl
        · have hi' : i = s.toNat := by omega
          subst hi'
          have q1 : (row nx k).take s.toNat = row nx k := List.take_of_length_le (by omega)
          rw [q1]
          repeat (first | refine awp_seq ?_ | refine then_n ?_ | refine then_r ?_ | refine then_x ?_ | refine block_n ?_ | refine block_r ?_ | refine block_x ?_ | refine u_y ?_ | refine loop_r ?_ | refine loop_x ?_ | refine awp_region ?_ | refine awpL_nil ?_ | refine awpQL_nil ?_ | refine awp_block ?_ | refine awp_skip ?_ | refine awp_exit ?_ | refine awp_label ?_ | refine u_dT ?_ | refine u_d ?_ | refine u_l ?_ | refine u_o ?_ | refine u_q ?_ | refine u_lr ?_ | refine u_qr ?_ | refine u_ls ?_ | refine u_qs ?_ | refine u_t ?_ | refine u_f ?_ | refine v_s ?_ | refine v_o ?_ | refine v_on ?_ | refine v_og ?_ | refine v_q ?_ | refine v_sr ?_ | refine v_k ?_ | refine m_nil ?_)
          refine loop_n (k + 1) (by omega) ?_ ?_ (by omega)
          · ((repeat (first | exact trivial | (refine ⟨?_, ?_⟩; (focus (first | rfl | (simp [lk, argsS, args0]; done) | (simp [lk, argsS, args0]; omega)))))))
          · rw [x1, ← t1]; rfl
    · have : k = nx.length := by omega
      subst this
      rw [List.take_length]
      refine awp_freeze 300 rfl rfl ?_
      rw [← rws_dat] at *
      repeat (first | refine awp_seq ?_ | refine then_n ?_ | refine then_r ?_ | refine then_x ?_ | refine block_n ?_ | refine block_r ?_ | refine block_x ?_ | refine u_y ?_ | refine loop_r ?_ | refine loop_x ?_ | refine awp_region ?_ | refine awpL_nil ?_ | refine awpQL_nil ?_ | refine awp_block ?_ | refine awp_skip ?_ | refine awp_exit ?_ | refine awp_label ?_ | refine u_dT ?_ | refine u_d ?_ | refine u_l ?_ | refine u_o ?_ | refine u_q ?_ | refine u_lr ?_ | refine u_qr ?_ | refine u_ls ?_ | refine u_qs ?_ | refine u_t ?_ | refine u_f ?_ | refine v_s ?_ | refine v_o ?_ | refine v_on ?_ | refine v_og ?_ | refine v_q ?_ | refine v_sr ?_ | refine v_k ?_ | refine m_nil ?_)
      (refine awp_ret ?_; (repeat (first | refine then_r ?_ | refine block_r ?_ | refine loop_r ?_)); apply ret_okC (.inr rfl); (focus exact rfl))
      rfl

theorem impl_ForgetOutputs {s o : Int} {nx ou : List (List Int)} (m : MV s o nx ou) : AC Tryz.prog 27 [mach s o nx ou] (.tup [.agg [.int .i64 s, rows nx], .int .i64 0]) := by
  have hs1 := m.s1
  have e1 := impl_ValidMachine (s := s) (o := o) m.rnx m.rou
  rw [machOk_mv m] at e1
  have e2 := impl_forget (s := s) (o := o) (nx := nx) (ou := ou)
  have e3 := impl_all (s := s) (nx := nx) (by omega)
  have e4 := impl_renumbered m
  unfold mach at *
  refine ac_introC tabIs _ Tryz.func27 rfl rfl Tryz.ntmps27 rfl rfl fun w0 ok0 he0 => ?_
  repeat (first | refine awp_seq ?_ | refine then_n ?_ | refine then_r ?_ | refine then_x ?_ | refine block_n ?_ | refine block_r ?_ | refine block_x ?_ | refine u_y ?_ | refine loop_r ?_ | refine loop_x ?_ | refine awp_region ?_ | refine awpL_nil ?_ | refine awpQL_nil ?_ | refine awp_block ?_ | refine awp_skip ?_ | refine awp_exit ?_ | refine awp_label ?_ | refine u_dT ?_ | refine u_d ?_ | ((first | apply c_l | apply c_q | apply c_lr | apply c_qr); (iterate 2 exact rfl); (focus (first | exact e1 | exact e2 | exact e3 | exact e4)); (iterate 2 exact rfl)) | (apply v_c; (iterate 4 exact rfl); (focus (first | exact e1 | exact e2 | exact e3 | exact e4)); (iterate 2 exact rfl)) | refine u_l ?_ | refine u_o ?_ | refine u_q ?_ | refine u_lr ?_ | refine u_qr ?_ | refine u_ls ?_ | refine u_qs ?_ | refine u_t ?_ | refine u_f ?_ | refine v_s ?_ | refine v_o ?_ | refine v_on ?_ | refine v_og ?_ | refine v_q ?_ | refine v_sr ?_ | refine v_k ?_ | refine m_nil ?_)
  (refine awp_ret ?_; (repeat (first | refine then_r ?_ | refine block_r ?_ | refine loop_r ?_)); apply ret_okC (.inr rfl); (focus exact rfl))
  rfl
theorem runO_app (nx ou : List (List Int)) : ∀ (u v : List Int) (q : Int), runO nx ou q (u ++ v) = runO nx ou q u ++ runO nx ou (runS nx q u) v
  | [], _, _ => rfl
  | l :: u, v, q => by
    show at2 ou l q :: runO nx ou (at2 nx l q) (u ++ v) = _
    rw [runO_app nx ou u v]
    rfl
theorem runS_app (nx : List (List Int)) : ∀ (u v : List Int) (q : Int), runS nx q (u ++ v) = runS nx (runS nx q u) v
  | [], _, _ => rfl
  | l :: u, v, q => runS_app nx u v (at2 nx l q)
theorem runS_rng {s o : Int} {nx ou : List (List Int)} (m : MV s o nx ou) : ∀ (w : List Int) {q : Int}, 0 ≤ q ∧ q < s → (∀ l ∈ w, 0 ≤ l ∧ l < nx.length) → 0 ≤ runS nx q w ∧ runS nx q w < s
  | [], _, h, _ => h
  | l :: w, _, h, hw => runS_rng m w (tbl_at m.nx (hw l (List.mem_cons_self ..)) h) fun x hm => hw x (List.mem_cons_of_mem _ hm)
theorem runO_len (nx ou : List (List Int)) : ∀ (w : List Int) (q : Int), (runO nx ou q w).length = w.length
  | [], _ => rfl
  | l :: w, q => by
    show (at2 ou l q :: runO nx ou (at2 nx l q) w).length = _
    rw [List.length_cons, runO_len nx ou w, List.length_cons]
theorem lit0 {s o : Int} {nx ou : List (List Int)} (m : MV s o nx ou) : litOk s nx (List.replicate s.toNat 0) = true := by
  have h := machOk_mv m
  have hs := m.s1
  simp only [machOk, Bool.and_eq_true] at h
  simp only [litOk, Bool.and_eq_true, decide_eq_true_eq, allIn, List.all_eq_true, inB]
  refine ⟨h.1, by rw [List.length_replicate]; omega, fun x hx => ?_⟩
  have := (List.mem_replicate.1 hx).2
  omega

theorem law_FnMachineText {code more : List Int} (hb : BytesOk code) (hb2 : BytesOk more) : AC Tryz.prog 4 [u8s code, u8s more] (.bool true) := by
  have g1 := laws_f6big (code := code)
  have g2 := laws_f6big (code := more)
  by_cases c1 : (4096 : Int) < code.length
  · rw [decide_eq_true c1] at g1
    refine ac_intro tabIs _ Tryz.func4 rfl rfl Tryz.ntmps4 rfl rfl fun w0 ok0 he0 => ?_
    repeat (first | refine awp_seq ?_ | refine then_n ?_ | refine then_r ?_ | refine then_x ?_ | refine block_n ?_ | refine block_r ?_ | refine block_x ?_ | refine u_y ?_ | refine loop_r ?_ | refine loop_x ?_ | refine awp_region ?_ | refine awpL_nil ?_ | refine awpQL_nil ?_ | refine awp_block ?_ | refine awp_skip ?_ | refine awp_exit ?_ | refine awp_label ?_ | refine u_dT ?_ | refine u_d ?_ | ((first | apply c_l | apply c_q | apply c_lr | apply c_qr); (iterate 2 exact rfl); (focus (first | exact g1)); (iterate 2 exact rfl)) | (apply v_c; (iterate 4 exact rfl); (focus (first | exact g1)); (iterate 2 exact rfl)) | refine u_l ?_ | refine u_o ?_ | refine u_q ?_ | refine u_lr ?_ | refine u_qr ?_ | refine u_ls ?_ | refine u_qs ?_ | refine u_t ?_ | refine u_f ?_ | refine v_s ?_ | refine v_o ?_ | refine v_on ?_ | refine v_og ?_ | refine v_q ?_ | refine v_sr ?_ | refine v_k ?_ | refine m_nil ?_)
    (refine awp_ret ?_; (repeat (first | refine then_r ?_ | refine block_r ?_ | refine loop_r ?_)); apply ret_ok (.inr rfl); (focus exact rfl))
    rfl
  rw [decide_eq_false c1] at g1
  by_cases c2 : (4096 : Int) < more.length
  · rw [decide_eq_true c2] at g2
    refine ac_intro tabIs _ Tryz.func4 rfl rfl Tryz.ntmps4 rfl rfl fun w0 ok0 he0 => ?_
    repeat (first | refine awp_seq ?_ | refine then_n ?_ | refine then_r ?_ | refine then_x ?_ | refine block_n ?_ | refine block_r ?_ | refine block_x ?_ | refine u_y ?_ | refine loop_r ?_ | refine loop_x ?_ | refine awp_region ?_ | refine awpL_nil ?_ | refine awpQL_nil ?_ | refine awp_block ?_ | refine awp_skip ?_ | refine awp_exit ?_ | refine awp_label ?_ | refine u_dT ?_ | refine u_d ?_ | ((first | apply c_l | apply c_q | apply c_lr | apply c_qr); (iterate 2 exact rfl); (focus (first | exact g1 | exact g2)); (iterate 2 exact rfl)) | (apply v_c; (iterate 4 exact rfl); (focus (first | exact g1 | exact g2)); (iterate 2 exact rfl)) | refine u_l ?_ | refine u_o ?_ | refine u_q ?_ | refine u_lr ?_ | refine u_qr ?_ | refine u_ls ?_ | refine u_qs ?_ | refine u_t ?_ | refine u_f ?_ | refine v_s ?_ | refine v_o ?_ | refine v_on ?_ | refine v_og ?_ | refine v_q ?_ | refine v_sr ?_ | refine v_k ?_ | refine m_nil ?_)
    (refine awp_ret ?_; (repeat (first | refine then_r ?_ | refine block_r ?_ | refine loop_r ?_)); apply ret_ok (.inr rfl); (focus exact rfl))
    rfl
  rw [decide_eq_false c2] at g2
  have p1 := spec_P6Machine hb
  have m : MV (pmM code).s (pmM code).o (pmM code).nx (pmM code).ou := mv_pmM hb
  generalize (pmM code).s = s at *
  generalize (pmM code).o = o at *
  generalize (pmM code).nx = nx at *
  generalize (pmM code).ou = ou at *
  have hs := m.s1
  have hn := m.n1
  have r1 := impl_MachineText m
  have r2 := impl_ReadMachine m
  have hnl : (List.map ints nx).length = nx.length := by simp
  obtain ⟨w, w1, w2, p2⟩ := spec_P6WordAM (code := more) (L := ((List.map ints nx).length : Nat)) (most := 8) hb2 (by omega) (by omega)
  rw [hnl] at w2
  have w1 : w.length ≤ 8 := w1
  have p3 := spec_P6Pick (n := s) hb2 (by omega)
  have hq := pick_range (s := ⟨0, 0⟩) (n := s) hb2 (by omega)
  generalize pickV more s ⟨0, 0⟩ = q at *
  have o1 := impl_OutputsOfM m hq (w := w) (by omega) w2
  have o2 := spec_OutputsOf m hq (w := w) (by omega) w2
  have v1 := impl_ValidMachine (s := s) (o := o) m.rnx m.rou
  rw [machOk_mv m] at v1
  have v2 := spec_SameMachine (s := s) (o := o) (s' := s) (o' := o) m.rnx m.rou m.rnx m.rou
  have v2e : sameM s o nx ou s o nx ou = true := by simp [sameM]
  rw [v2e] at v2
  have hwl : (w.map (D.int .i64)).length = w.length := by simp
  have p4 := spec_P6Pick (code := code) (n := ((w.map (D.int .i64)).length : Nat) + 1) hb (by omega)
  have hk := pick_range (s := ⟨0, 0⟩) (n := ((w.map (D.int .i64)).length : Nat) + 1) hb (by omega)
  obtain ⟨k, hk'⟩ : ∃ k : Nat, pickV code (((w.map (D.int .i64)).length : Nat) + 1) ⟨0, 0⟩ = k := ⟨(pickV code (((w.map (D.int .i64)).length : Nat) + 1) ⟨0, 0⟩).toNat, by omega⟩
  rw [hk'] at p4 hk
  have o3 := impl_OutputsOfM m hq (w := w.take k) (by rw [List.length_take]; omega) fun l hl => w2 l (List.mem_of_mem_take hl)
  have hmid := runS_rng m (w.take k) hq fun l hl => w2 l (List.mem_of_mem_take hl)
  have o4 := impl_OutputsOfM m hmid (w := w.drop k) (by rw [List.length_drop]; omega) fun l hl => w2 l (List.mem_of_mem_drop hl)
  have happ := runO_app nx ou (w.take k) (w.drop k) q
  have hend := runS_app nx (w.take k) (w.drop k) q
  rw [List.take_append_drop] at happ hend
  rw [← hend] at o4
  have ht : ints (w.take k) = .lst ((w.map (D.int .i64)).take ((k : Nat) : Int).toNat) := by unfold ints; rw [List.map_take]; rfl
  have hd : ints (w.drop k) = .lst ((w.map (D.int .i64)).drop ((k : Nat) : Int).toNat) := by unfold ints; rw [List.map_drop]; rfl
  rw [ht] at o3
  rw [hd] at o4
  have e1 := impl_ForgetOutputs m
  have e2 := impl_ImageOfM (l := [q]) (w := w) (lit0 m) (fun x hx => by simp at hx; subst hx; exact hq) (by simp) (by omega) w2
  have himg : imgL nx [q] w = [runS nx q w] := rfl
  rw [himg] at e2
  have l1 := runO_len nx ou w q
  have l2 : (runO nx ou q (w.take k)).length ≤ 8 := by rw [runO_len, List.length_take]; omega
  have l3 : (runO nx ou (runS nx q (w.take k)) (w.drop k)).length ≤ 8 := by rw [runO_len, List.length_drop]; omega
  have f1 := laws_f6ints (a := runO nx ou q w) (b := runO nx ou q w) (by omega) (by omega)
  have f2 := laws_f6ints (a := [runS nx q w]) (b := [runS nx q w]) (by simp) (by simp)
  rw [decide_eq_true rfl] at f1 f2
  have f3 : AC Tryz.prog 26 [.lst (([] ++ (runO nx ou q (w.take k)).map (D.int .i64)) ++ (runO nx ou (runS nx q (w.take k)) (w.drop k)).map (D.int .i64)), ints (runO nx ou q w)] (.bool true) := by
    have e : ([] ++ (runO nx ou q (w.take k)).map (D.int .i64)) ++ (runO nx ou (runS nx q (w.take k)) (w.drop k)).map (D.int .i64) = (runO nx ou q w).map (D.int .i64) := by
      rw [List.nil_append, ← List.map_append, ← happ]
    rw [e]
    exact f1
  clear happ
  generalize runO nx ou (runS nx q (w.take k)) (w.drop k) = O2 at *
  generalize runO nx ou q (w.take k) = O1 at *
  generalize runS nx q (w.take k) = mid at *
  generalize runO nx ou q w = O at *
  generalize runS nx q w = en at *
  have hel := elsOk_ints w
  generalize mtx s o nx ou = tx at *
  unfold mach at *
  refine ac_intro tabIs _ Tryz.func4 rfl rfl Tryz.ntmps4 rfl rfl fun w0 ok0 he0 => ?_
  repeat (first | refine awp_seq ?_ | refine then_n ?_ | refine then_r ?_ | refine then_x ?_ | refine block_n ?_ | refine block_r ?_ | refine block_x ?_ | refine u_y ?_ | refine loop_r ?_ | refine loop_x ?_ | refine awp_region ?_ | refine awpL_nil ?_ | refine awpQL_nil ?_ | refine awp_block ?_ | refine awp_skip ?_ | refine awp_exit ?_ | refine awp_label ?_ | ((first | apply c_l | apply c_q | apply c_lr | apply c_qr); (iterate 2 exact rfl); (focus (first | exact g1 | exact g2 | exact p1 | exact r1 | exact r2 | exact p2 | exact p3 | exact o1 | exact o2 | exact v1 | exact v2 | exact f1 | exact p4)); (iterate 2 exact rfl)) | (apply v_c; (iterate 4 exact rfl); (focus (first | exact g1 | exact g2 | exact p1 | exact r1 | exact r2 | exact p2 | exact p3 | exact o1 | exact o2 | exact v1 | exact v2 | exact f1 | exact p4)); (iterate 2 exact rfl)) | refine u_l ?_ | refine u_o ?_ | refine u_q ?_ | refine u_lr ?_ | refine u_qr ?_ | refine u_ls ?_ | refine u_qs ?_ | refine u_t ?_ | refine u_f ?_ | refine v_s ?_ | refine v_o ?_ | refine v_on ?_ | refine v_og ?_ | refine v_q ?_ | refine v_sr ?_ | refine v_k ?_ | refine m_nil ?_ | refine u_glt ?_ | refine u_glf ?_ | refine u_gqt ?_ | refine u_gqf ?_)
  repeat (first | refine awp_seq ?_ | refine then_n ?_ | refine then_r ?_ | refine then_x ?_ | refine block_n ?_ | refine block_r ?_ | refine block_x ?_ | refine u_y ?_ | refine loop_r ?_ | refine loop_x ?_ | refine awpL_nil ?_ | refine awpQL_nil ?_ | refine awp_block ?_ | refine awp_skip ?_ | refine awp_exit ?_ | refine awp_label ?_ | refine u_dT ?_ | refine u_d ?_ | ((first | apply x_l | apply x_q | apply x_lr | apply x_qr); (focus (first | (apply qa_slice_h; (iterate 8 (focus (first | exact rfl | (first | assumption | omega | (simp; omega) | (simp; done) | rfl))))) | (apply qa_slice_l; (iterate 8 (focus (first | exact rfl | (first | assumption | omega | (simp; omega) | (simp; done) | rfl))))))); exact rfl) | ((first | apply c_l | apply c_q | apply c_lr | apply c_qr); (iterate 2 exact rfl); (focus (first | exact o3 | exact o4)); (iterate 2 exact rfl)) | (apply v_x; (iterate 2 exact rfl); (focus (intro ok0 nw hle; (first | (apply qa_slice_h; (iterate 8 (focus (first | exact rfl | (first | assumption | omega | (simp; omega) | (simp; done) | rfl))))) | (apply qa_slice_l; (iterate 8 (focus (first | exact rfl | (first | assumption | omega | (simp; omega) | (simp; done) | rfl)))))))); (iterate 2 exact rfl)) | (apply v_c; (iterate 4 exact rfl); (focus (first | exact o3 | exact o4)); (iterate 2 exact rfl)) | refine u_l ?_ | refine u_o ?_ | refine u_q ?_ | refine u_lr ?_ | refine u_qr ?_ | refine u_ls ?_ | refine u_qs ?_ | refine u_t ?_ | refine u_f ?_ | refine v_s ?_ | refine v_o ?_ | refine v_on ?_ | refine v_og ?_ | refine v_q ?_ | refine v_sr ?_ | refine v_k ?_ | refine m_nil ?_ | refine u_glt ?_ | refine u_glf ?_ | refine u_gqt ?_ | refine u_gqf ?_)
  refine awp_region ?_
  repeat (first | refine awp_seq ?_ | refine then_n ?_ | refine then_r ?_ | refine then_x ?_ | refine block_n ?_ | refine block_r ?_ | refine block_x ?_ | refine u_y ?_ | refine loop_r ?_ | refine loop_x ?_ | refine awpL_nil ?_ | refine awpQL_nil ?_ | refine awp_block ?_ | refine awp_skip ?_ | refine awp_exit ?_ | refine awp_label ?_ | refine u_dT ?_ | refine u_d ?_ | ((first | apply c_l | apply c_q | apply c_lr | apply c_qr); (iterate 2 exact rfl); (focus (first | exact e1)); (iterate 2 exact rfl)) | (apply v_c; (iterate 4 exact rfl); (focus (first | exact e1)); (iterate 2 exact rfl)) | refine u_l ?_ | refine u_o ?_ | refine u_q ?_ | refine u_lr ?_ | refine u_qr ?_ | refine u_ls ?_ | refine u_qs ?_ | refine u_t ?_ | refine u_f ?_ | refine v_s ?_ | refine v_o ?_ | refine v_on ?_ | refine v_og ?_ | refine v_q ?_ | refine v_sr ?_ | refine v_k ?_ | refine m_nil ?_)
  refine awp_region ?_
  repeat (first | refine awp_seq ?_ | refine then_n ?_ | refine then_r ?_ | refine then_x ?_ | refine block_n ?_ | refine block_r ?_ | refine block_x ?_ | refine u_y ?_ | refine loop_r ?_ | refine loop_x ?_ | refine awpL_nil ?_ | refine awpQL_nil ?_ | refine awp_block ?_ | refine awp_skip ?_ | refine awp_exit ?_ | refine awp_label ?_ | refine u_dT ?_ | refine u_d ?_ | ((first | apply c_l | apply c_q | apply c_lr | apply c_qr); (iterate 2 exact rfl); (focus (first | exact e2)); (iterate 2 exact rfl)) | (apply v_c; (iterate 4 exact rfl); (focus (first | exact e2)); (iterate 2 exact rfl)) | refine u_l ?_ | refine u_o ?_ | refine u_q ?_ | refine u_lr ?_ | refine u_qr ?_ | refine u_ls ?_ | refine u_qs ?_ | refine u_t ?_ | refine u_f ?_ | refine v_s ?_ | refine v_o ?_ | refine v_on ?_ | refine v_og ?_ | refine v_q ?_ | refine v_sr ?_ | refine v_k ?_ | refine m_nil ?_)
  refine awp_region ?_
  (iterate 20 (first | refine u_l ?_ | refine u_lr ?_))
  refine u_glt ?_
  refine awpL_toG rfl (by apply wo_lit; (iterate 11 exact rfl)) ?_
  refine u_lr ?_
  refine awpL_toG rfl (by apply wo_append; (iterate 14 exact rfl); (focus exact elsOk_ints _); (simp; omega)) ?_
  refine u_lr ?_
  refine awpL_toG rfl (by apply wo_append; (iterate 14 exact rfl); (focus exact elsOk_ints _); (simp; omega)) ?_
  repeat (first | refine awp_seq ?_ | refine then_n ?_ | refine then_r ?_ | refine then_x ?_ | refine block_n ?_ | refine block_r ?_ | refine block_x ?_ | refine u_y ?_ | refine loop_r ?_ | refine loop_x ?_ | refine awp_region ?_ | refine awpL_nil ?_ | refine awpQL_nil ?_ | refine awp_block ?_ | refine awp_skip ?_ | refine awp_exit ?_ | refine awp_label ?_ | refine u_dT ?_ | refine u_d ?_ | ((first | apply c_l | apply c_q | apply c_lr | apply c_qr); (iterate 2 exact rfl); (focus (first | exact f3 | exact f2)); (iterate 2 exact rfl)) | (apply v_c; (iterate 4 exact rfl); (focus (first | exact f3 | exact f2)); (iterate 2 exact rfl)) | refine u_l ?_ | refine u_o ?_ | refine u_q ?_ | refine u_lr ?_ | refine u_qr ?_ | refine u_ls ?_ | refine u_qs ?_ | refine u_t ?_ | refine u_f ?_ | refine v_s ?_ | refine v_o ?_ | refine v_on ?_ | refine v_og ?_ | refine v_q ?_ | refine v_sr ?_ | refine v_k ?_ | refine m_nil ?_ | refine u_glt ?_ | refine u_glf ?_ | refine u_gqt ?_ | refine u_gqf ?_)
  (refine awp_ret ?_; (repeat (first | refine then_r ?_ | refine block_r ?_ | refine loop_r ?_)); apply ret_ok (.inr rfl); (focus exact rfl))
  rfl
end Go.Proofs.YtffmlijngfhhaaaGreatDoor
