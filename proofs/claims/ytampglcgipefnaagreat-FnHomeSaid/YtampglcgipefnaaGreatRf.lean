/- HomeDeeds in the reference: the walk. No condition. -/
import Derived.Test.YtampglcgipefnaaGreatRe
import Derived.Test.YtampglcgipefnaaGreatFwBs
namespace Go.Proofs.YtampglcgipefnaaGreat
open Go
attribute [local irreducible] awp awpL awpQL awpQ awpM pWalk Qt AC thenQ blockQ loopQ OpTo
set_option linter.unusedVariables false
set_option linter.unusedSimpArgs false
set_option maxHeartbeats 2000000
attribute [local irreducible] HC

theorem spec_HomeDeeds {s st : Int} {nx : List (List Int)} {lp : List Int} {ds : List (Int × Int)} (h : RowsOk nx) (h2 : lp.length ≤ 9223372036854775807) (h3 : ds.length ≤ 1048576) :
    AC Tryz.prog 29 [ltD s nx lp, .int .i64 st, deedsD ds] (.tup [deedsD (hmD s st nx lp ds).1, .int .i64 (hmD s st nx lp ds).2]) := by
  have e1 := spec_l08Asked (s := s) (st := st) (nx := nx) (lp := lp) (ds := ds) h h2 h3
  unfold hmD
  by_cases ha : askC s st nx lp ds = 0
  · rw [if_pos ha]
    obtain ⟨hv, hst, hd, hl⟩ := ask_ok ha
    have v := lv_of hv
    have hs := v.s1
    have hn1 := v.n1
    have c0 := spec_l08RunH hv hst hd hl
    have hln := runF_ok hv ds (ln0_ok (nx := nx) hst) hd
    obtain ⟨hs', hi⟩ := runF_inv hv ds (ln0_ok (nx := nx) hst) (lnInv0 hst) hd
    have F := hmF hv hln hi
    rw [ha] at e1
    generalize runF s nx lp (ln0 s st) ds = n at *
    generalize codesF s nx lp (ln0 s st) ds = cs at *
    clear ha
    have hok := F.ok
    rw [F.d] at hok
    have t0 := F.t0
    have t1 := F.t1
    have q1 := F.q
    have b1 := F.b1
    have b2 := F.b2
    have b3 := F.b3
    have f1 := F.f
    have hH : hearF s nx lp { n with wire := [] } = lnP n.st n.life (hmP s nx lp n).ord n.tk n.tk (hmP s nx lp n).bel := by
      show (⟨n.st, n.life, n.tk, hmP s nx lp n, hmP s nx lp n, []⟩ : Ln) = _
      rw [F.d]
      rfl
    have hst1 := F.st
    clear F hi
    have hQ : hmQ s nx lp n = stP nx n.st (hmP s nx lp n).ord n.tk (hmK s nx lp n) := rfl
    have hB : hmB s nx lp n = belH nx lp (hmP s nx lp n).ord (hmP s nx lp n).bel n.tk (hmQ s nx lp n) := rfl
    have hLL : hmL s nx lp n = List.replicate n.wire.length (6, 0) ++ hearL ++ pstL n.tk (hmK s nx lp n) ++ hearL := rfl
    have hR : hmR s nx lp n = rnds s nx lp (dep s nx lp (bitsL 0 (hmB s nx lp n))).toNat (bitsL 0 (hmB s nx lp n)) (hmQ s nx lp n) (hmP s nx lp n).ord (hmL s nx lp n) := rfl
    generalize hmR s nx lp n = R at *
    generalize hmL s nx lp n = L4 at *
    generalize hmB s nx lp n = B at *
    generalize hmQ s nx lp n = Q at *
    generalize hmK s nx lp n = K at *
    generalize (hmP s nx lp n).ord = ord at *
    generalize (hmP s nx lp n).bel = bl at *
    have hol : ord.length ≤ 60 := hok.len
    have hwl : (n.wire.map pkD).length = n.wire.length := by simp
    have hw10 := hln.wl
    unfold ltD deedsD lnS at *
    refine ac_introC tabIs _ Tryz.func29 rfl rfl Tryz.ntmps29 rfl rfl fun w0 ok0 => ?_
    repeat (first | refine zcn ?_ | ((first | apply c_l | apply c_q | apply c_lr | apply c_qr); (iterate 2 exact rfl); (focus (first | exact e1)); (iterate 2 exact rfl)) | (apply v_c; (iterate 4 exact rfl); (focus (first | exact e1)); (iterate 2 exact rfl)) | refine zv ?_)
    refine hcl [] [(30000, 99)] c0 ?_
    repeat (first | refine zcr ?_ | refine zv ?_)
    refine awp_sub (s' := [(1, .d (.int .i64 st)), (2, .d (.lst (ds.map deedD))), (3, .d (.ptr (.agg [.int .i64 s, rows nx, ints lp]))), (9, .ref 9 0)]) (by exact zs) ?_
    refine awp_permTo [(9, .box [.d (.int .i64 n.st), .d (.int .i64 n.life), .d (.int .i64 n.tk), .d (.int .i64 n.d.life), .d (ints n.d.ord), .d (.int .i64 n.d.sure), .d (ints n.d.bel), .d (.int .i64 n.sv.life), .d (ints n.sv.ord), .d (.int .i64 n.sv.sure), .d (ints n.sv.bel), .own 99]), (99, wrC n.wire)] rfl ?_
    refine awp_region ?_
    repeat (first | refine v_w (t := 29) ?_ | refine zcr ?_ | refine u_w (t := 29) ?_ | ((first | apply x_l | apply x_q | apply x_lr | apply x_qr); (focus (first | (apply wa_buildT; (iterate 4 (focus (first | exact rfl | (first | assumption | omega | (simp; omega) | (simp; done) | rfl))))))); exact rfl) | (apply v_x; (iterate 2 exact rfl); (focus (intro ok0 nw hle; (first | (apply wa_buildT; (iterate 4 (focus (first | exact rfl | (first | assumption | omega | (simp; omega) | (simp; done) | rfl)))))))); (iterate 2 exact rfl)) | refine zv ?_)
    refine awp_sub (s' := [(1, .d (.int .i64 st)), (2, .d (.lst (ds.map deedD))), (3, .d (.ptr (.agg [.int .i64 s, rows nx, ints lp]))), (11, .ref 29 0)]) (by exact zs) ?_
    refine awp_forget 9 ?_
    refine awp_nilCell 29 13 98 74 2 rfl rfl rfl rfl rfl ?_
    refine awp_sub (s' := [(1, .d (.int .i64 st)), (2, .d (.lst (ds.map deedD))), (3, .d (.ptr (.agg [.int .i64 s, rows nx, ints lp]))), (11, .ref 29 0)]) (by exact zs) ?_
    refine awp_permTo [(29, plB (.own 99) (.own 98) (.ptr (.agg [.int .i64 s, rows nx, ints lp])) false n), (98, dsC []), (99, wrC n.wire)] rfl ?_
    refine awp_loop (fun i : Nat => i ≤ n.wire.length) (fun i => [(1, .d (.int .i64 st)), (2, .d (.lst (ds.map deedD))), (3, .d (.ptr (.agg [.int .i64 s, rows nx, ints lp]))), (11, .ref 29 0)]) (fun i => [(29, plB (.own 99) (.own 98) (.ptr (.agg [.int .i64 s, rows nx, ints lp])) false { n with wire := n.wire.drop i }), (98, dsC (List.replicate i (6, 0))), (99, wrC (n.wire.drop i))]) (fun i => n.wire.length - i) 0 (by omega) ?_ rfl ?_
    · exact zs
    · intro i hi
      have hdl : ((n.wire.drop i).map pkD).length = n.wire.length - i := by simp
      by_cases hlt : i < n.wire.length
      ·
        have e := List.drop_eq_getElem_cons hlt
        have ed := do_drop (s := s) (nx := nx) (lp := lp) (n := { n with wire := n.wire.drop i }) e
        have c1 := plan_doW (pB := false) (pS := List.replicate i (6, 0)) hv (hln.cut (w := n.wire.drop i) (fun p hp => List.mem_of_mem_drop hp) (by rw [List.length_drop]; omega)) (by omega) (dd0 (c := 6) (by decide)) (by decide) (by simp; omega) ed
        rw [← List.replicate_succ'] at c1
        clear e ed
        unfold plB wrC dsC ltD at *
        repeat (first | refine zc ?_ | refine zv ?_)
        refine hcl [(29, 10000), (99, 20000), (98, 20001)] [(10000, 29), (20000, 99), (20001, 98)] c1 ?_
        refine awpL_perm _ rfl ?_
        repeat (first | refine zc ?_ | refine zv ?_)
        refine loop_n (i + 1) (by omega) ?_ ?_ (by omega)
        · exact zs
        · (as_aux_lemma => kernel_rfl)
      · have hi2 : i = n.wire.length := by omega
        subst hi2
        rw [List.drop_length]
        have hn1ok : LnOk s nx ds.length { n with wire := [] } := by simpa using hln.cut (w := []) (fun p hp => by cases hp) (by simp)
        have c1 := plan_hearW (pB := false) (pS := List.replicate n.wire.length (6, 0)) hv hn1ok (by omega) rfl (by simp; omega)
        rw [hH] at c1
        repeat (first | refine zcr ?_ | refine zv ?_)
        refine awp_region ?_
        generalize hL1 : List.replicate n.wire.length ((6 : Int), (0 : Int)) ++ hearL = L1 at *
        have hHH := hH
        have hl1 : L1.length ≤ 13 := by rw [← hL1]; simp [hearL]; omega
        unfold plB wrC dsC ltD at *
        repeat (first | refine zc ?_ | refine zv ?_)
        refine hcl [(29, 10000), (99, 20000), (98, 20001)] [(10000, 29), (20000, 99), (20001, 98)] c1 ?_
        repeat (first | refine zcr ?_ | refine zv ?_)
        refine awp_region ?_
        repeat (first | refine zcr ?_ | refine zv ?_)
        refine awp_sub (s' := [(1, .d (.int .i64 st)), (2, .d (.lst (ds.map deedD))), (3, .d (.ptr (.agg [.int .i64 s, rows nx, ints lp]))), (11, .ref 29 0), (12, .d (.int .i64 n.tk))]) (by exact zs) ?_
        refine awp_permTo [(29, plB (.own 99) (.own 98) (.ptr (.agg [.int .i64 s, rows nx, ints lp])) false (lnP n.st n.life ord n.tk n.tk bl)), (98, dsC L1), (99, wrC [])] rfl ?_
        refine awp_loop (fun j : Nat => j ≤ K) (fun j => [(1, .d (.int .i64 st)), (2, .d (.lst (ds.map deedD))), (3, .d (.ptr (.agg [.int .i64 s, rows nx, ints lp]))), (11, .ref 29 0), (12, .d (.int .i64 (n.tk + j)))]) (fun j => [(29, plB (.own 99) (.own 98) (.ptr (.agg [.int .i64 s, rows nx, ints lp])) false (lnP (stP nx n.st ord n.tk j) n.life ord (n.tk + j) n.tk bl)), (98, dsC (L1 ++ pstL n.tk j)), (99, wrC [])]) (fun j => K - j) 0 (by omega) ?_ ?_ ?_
        · rw [show n.tk + ((0 : Nat) : Int) = n.tk by omega]
          exact zs
        · rw [show n.tk + ((0 : Nat) : Int) = n.tk by omega]
          simp [pstL, stP]
        · intro j hj
          have hom : (ord.map (D.int .i64)).length = ord.length := by simp
          have hstj := stP_range (st := n.st) (ord := ord) v.nx hst1 hok.ord t0 j (by omega)
          have hpl := pstL_len (tk := n.tk) j
          by_cases hlt : j < K
          ·
            have d1 := plan_doW (pB := false) (pS := L1 ++ pstL n.tk j) hv (lnP_ok (tk := n.tk + j) hok hstj (by omega)) (by omega) (dd2 (c := 2) (a := n.tk + j) (by decide) (by omega)) (by decide) (by rw [List.length_append]; omega) (post_do1 (by omega))
            have d2 := plan_doW (pB := false) (pS := L1 ++ pstL n.tk j ++ [(2, n.tk + j)]) hv (lnP1_ok (tk := n.tk + j) hok hstj (by omega)) (by omega) (dd0 (c := 4) (by decide)) (by decide) (by simp only [List.length_append]; simp; omega) post_do2
            have e1 : L1 ++ pstL n.tk j ++ [(2, n.tk + j)] ++ [(4, 0)] = L1 ++ pstL n.tk (j + 1) := by rw [pstL_succ]; simp
            have e2 : n.tk + ((j + 1 : Nat) : Int) = n.tk + j + 1 := by omega
            rw [e1] at d2
            have e3 : stP nx n.st ord n.tk (j + 1) = at2 nx (ord.getD (n.tk + j).toNat 0) (stP nx n.st ord n.tk j) := rfl
            rw [← e3] at d2
            generalize stP nx n.st ord n.tk j = sj at *
            generalize hsj : stP nx n.st ord n.tk (j + 1) = sj' at *
            generalize L1 ++ pstL n.tk j = La at *
            generalize hLc : L1 ++ pstL n.tk (j + 1) = Lc at *
            generalize La ++ [(2, n.tk + (j : Int))] = Lb at *
            clear e1 e3
            unfold plB wrC dsC ltD lnP1 lnP at *
            repeat (first | refine zc ?_ | refine zv ?_)
            refine hcl [(29, 10000), (99, 20000), (98, 20001)] [(10000, 29), (20000, 99), (20001, 98)] d1 ?_
            repeat (first | refine zc ?_ | refine zv ?_)
            refine hcl [(29, 10000), (99, 20000), (98, 20001)] [(10000, 29), (20000, 99), (20001, 98)] d2 ?_
            refine awpL_perm _ rfl ?_
            repeat (first | refine zc ?_ | refine zv ?_)
            refine loop_n (j + 1) (by omega) ?_ ?_ (by omega)
            · rw [e2]
              exact zs
            · simp only [e2, hsj, hLc]
              (as_aux_lemma => kernel_rfl)
          · have hjK : j = K := by omega
            subst hjK
            have hob : ((ord.map (D.int .i64)).length : Int) = ord.length := by simp
            have hPe : lnP (stP nx n.st ord n.tk j) n.life ord (n.tk + j) n.tk bl = lnP Q n.life ord ord.length n.tk bl := by rw [hQ, t1]
            rw [hPe]
            rw [hQ] at q1
            have c3 := plan_hearW (pB := false) (pS := L1 ++ pstL n.tk j) hv (lnP_ok (st := Q) (tk := ord.length) hok (by rw [hQ]; exact hstj) (by omega)) (by omega) rfl (by rw [List.length_append]; omega)
            rw [hear_P (by omega), ← hB, ← hLL] at c3
            have e4 := spec_depths v
            have e5 := spec_l02Bits (l := B) (fun q hq => by have := b1 q hq; omega) (by have := ris_le10 hs.2 b1 b2; omega)
            have hel := fnL_el (F := dep s nx lp) f1
            have hdr := dep_range (s := s) (nx := nx) (lp := lp) (f := bitsL 0 B)
            have hpw := pow_le (m := s.toNat) (by omega)
            have hL4 : L4.length ≤ 136 := by rw [hLL]; simp only [List.length_append]; simp [hearL]; omega
            have hordok := hok.ord
            have hlife := hok.life
            rw [← hQ] at q1
            clear c1 hPe hpl hstj hHH
            unfold plB wrC dsC ltD lnP lnH at *
            repeat (first | refine zcr ?_ | refine zv ?_)
            refine awp_region ?_
            repeat (first | refine zc ?_ | refine zv ?_)
            refine hcl [(29, 10000), (99, 20000), (98, 20001)] [(10000, 29), (20000, 99), (20001, 98)] c3 ?_
            repeat (first | refine zcr ?_ | refine zv ?_)
            refine awp_region ?_
            repeat (first | refine zcr ?_ | ((first | apply c_l | apply c_q | apply c_lr | apply c_qr); (iterate 2 exact rfl); (focus (first | exact e4)); (iterate 2 exact rfl)) | (apply v_c; (iterate 4 exact rfl); (focus (first | exact e4)); (iterate 2 exact rfl)) | refine zv ?_)
            refine awp_sub (s' := [(1, .d (.int .i64 st)), (2, .d (.lst (ds.map deedD))), (3, .d (.ptr (.agg [.int .i64 s, rows nx, ints lp]))), (11, .ref 29 0), (13, .d (ints (fnL (2 ^ s.toNat) (dep s nx lp))))]) (by exact zs) ?_
            refine awp_permTo [(29, plB (.own 99) (.own 98) (.ptr (.agg [.int .i64 s, rows nx, ints lp])) false (lnH Q n.life ord B)), (98, dsC L4), (99, wrC [])] rfl ?_
            generalize hf0 : bitsL 0 B = f0 at *
            subst b3
            clear hB hf0
            generalize n.life = lf at *
            generalize n.tk = tk0 at *
            by_cases hdp : dep s nx lp f0 < 0
            · rw [if_pos hdp]
              unfold plB wrC dsC lnH
              repeat (first | refine zcr ?_ | ((first | apply c_l | apply c_q | apply c_lr | apply c_qr); (iterate 2 exact rfl); (focus (first | exact e5)); (iterate 2 exact rfl)) | (apply v_c; (iterate 4 exact rfl); (focus (first | exact e5)); (iterate 2 exact rfl)) | refine zv ?_)
              refine awp_region ?_
              repeat (first | refine zc ?_ | ((first | apply c_l | apply c_q | apply c_lr | apply c_qr); (iterate 2 exact rfl); (focus (first | exact e5)); (iterate 2 exact rfl)) | (apply v_c; (iterate 4 exact rfl); (focus (first | exact e5)); (iterate 2 exact rfl)) | refine zv ?_)
              (refine awp_ret ?_; (repeat (first | refine then_r ?_ | refine block_r ?_ | refine loop_r ?_)); apply ret_okC (.inr rfl); (focus exact rfl))
              rfl
            · rw [if_neg hdp]
              unfold plB wrC dsC lnH
              refine awp_region ?_
              repeat (first | refine zcr ?_ | ((first | apply c_l | apply c_q | apply c_lr | apply c_qr); (iterate 2 exact rfl); (focus (first | exact e5)); (iterate 2 exact rfl)) | (apply v_c; (iterate 4 exact rfl); (focus (first | exact e5)); (iterate 2 exact rfl)) | refine zv ?_)
              refine awp_sub (s' := [(1, .d (.int .i64 st)), (2, .d (.lst (ds.map deedD))), (3, .d (.ptr (.agg [.int .i64 s, rows nx, ints lp]))), (11, .ref 29 0), (13, .d (ints (fnL (2 ^ s.toNat) (dep s nx lp))))]) (by exact zs) ?_
              refine awp_loop (fun p : (Nat × Int × List Int × List (Int × Int) × Nat) ⊕ (Ln × List (Int × Int)) => match p with
                | .inl p => p.1 < 2 ^ s.toNat ∧ (0 ≤ p.2.1 ∧ p.2.1 < s) ∧ 0 ≤ dep s nx lp p.1 ∧ dep s nx lp p.1 ≤ p.2.2.2.2 ∧ DskOk s nx ⟨lf, p.2.2.1, p.2.2.1.length, setN p.1⟩ ∧ p.2.2.2.1.length ≤ 136 + 7 * p.2.2.1.length ∧ rnds s nx lp p.2.2.2.2 p.1 p.2.1 p.2.2.1 p.2.2.2.1 = R
                | .inr _ => R.2.1 = true)
                (fun _ => [(1, .d (.int .i64 st)), (2, .d (.lst (ds.map deedD))), (3, .d (.ptr (.agg [.int .i64 s, rows nx, ints lp]))), (11, .ref 29 0), (13, .d (ints (fnL (2 ^ s.toNat) (dep s nx lp))))])
                (fun p => match p with
                | .inl p => [(29, plB (.own 99) (.own 98) (.ptr (.agg [.int .i64 s, rows nx, ints lp])) false (lnH p.2.1 lf p.2.2.1 (setN p.1))), (98, dsC p.2.2.2.1), (99, wrC [])]
                | .inr p => [(29, plB (.own 99) (.own 98) (.ptr (.agg [.int .i64 s, rows nx, ints lp])) true p.1), (98, dsC p.2), (99, wrC [])])
                (fun p => match p with
                | .inl p => (dep s nx lp p.1).toNat + 1
                | .inr _ => 0) (.inl (f0, Q, ord, L4, (dep s nx lp f0).toNat)) ⟨f1, q1, by show 0 ≤ dep s nx lp f0; omega, by show dep s nx lp f0 ≤ ((dep s nx lp f0).toNat : Nat); omega, ⟨hlife, hol, hordok, ⟨by show (0 : Int) ≤ (ord.length : Nat); omega, Int.le_refl _⟩, b1, b2⟩, by show L4.length ≤ _; omega, hR.symm⟩ ?_ rfl ?_
              · exact zs
              · rintro (⟨f, q, ord', out, k⟩ | ⟨m, out⟩) hI
                · obtain ⟨i1, i2, i3, i4, i5, i6, i7⟩ := hI
                  dsimp only at i1 i2 i3 i4 i5 i6 i7 ⊢
                  have hf1024 : f < 1024 := by omega
                  have hls := len_sm hf1024
                  have hdz := dep_zero (s := s) (nx := nx) (lp := lp) (f := f)
                  have hle : (List.map (D.int IntKind.i64) (setN f)).length = (setN f).length := by simp
                  have hlo : (out.map deedD).length = out.length := by simp
                  have hld : (ds.map deedD).length = ds.length := by simp
                  have hol' : ord'.length ≤ 60 := i5.len
                  by_cases hz : dep s nx lp f = 0
                  · have hsm := hls.2 (hdz.1 hz)
                    rw [rnds_end hz] at i7
                    subst i7
                    dsimp only
                    unfold plB wrC dsC lnH
                    by_cases h400 : 400 < ds.length + out.length
                    ·
                      rw [if_pos (.inr h400)]
                      repeat (first | refine zc ?_ | refine zv ?_ | refine zg ?_)
                      (refine awp_ret ?_; (repeat (first | refine then_r ?_ | refine block_r ?_ | refine loop_r ?_)); apply ret_okC (.inr rfl); (focus exact rfl))
                      rfl
                    ·
                      rw [if_neg (by simp; omega)]
                      repeat (first | refine zc ?_ | refine zv ?_ | refine zg ?_)
                      refine awp_freeze 98 rfl rfl ?_
                      (refine awp_ret ?_; (repeat (first | refine then_r ?_ | refine block_r ?_ | refine loop_r ?_)); apply ret_okC (.inr rfl); (focus exact rfl))
                      rfl
                  · have hbig : ¬ (setN f).length ≤ 1 := fun h => hz (hdz.2 (hls.1 h))
                    obtain ⟨x, y, q', stp1⟩ := stp hv i1 i2 (by omega)
                    have hL : ∀ q ∈ setN f, 0 ≤ q ∧ q < s := fun q hq => by have := setN_lt i1 hq; omega
                    have hLn : (setN f).length ≤ 64 := setTo_length f 64
                    have e6 := spec_l02Bits (l := setN f) (fun q hq => by have := hL q hq; omega) (by omega)
                    rw [bits_set (by omega)] at e6
                    have e7 := spec_l08Letter (G := dep s nx lp) v i1 (by have := dep_range (s := s) (nx := nx) (lp := lp) (f := f); omega)
                    rw [(ltr_spec (s := s) (nx := nx) (lp := lp) (f := f) (by omega)).2, stp1.l1] at e7
                    have hx1 := stp1.x1
                    have hx2 : (x : Int) < nx.length := by omega
                    have hbl := bel_list v i1 stp1.x1 (y := y)
                    by_cases ho : ord'.length = 60
                    · rw [rnds_full hz (by omega) ho] at i7
                      have k0 : LnOk s nx 60 (lnH q lf ord' (setN f)) := lnP_ok i5 i2 (by omega)
                      have hxe : 0 ≤ (x : Int) ∧ (x : Int) ≤ 999 := by omega
                      have hX : ((ord'.map (D.int .i64)).length : Int) - 1 = 59 := by simp; omega
                      have d3 : doF s nx lp (lnH q lf ord' (setN f)) 2 (((ord'.map (D.int .i64)).length : Int) - 1) = ({ lnH q lf ord' (setN f) with wire := [⟨false, lf, 59, ord'.getD (59 : Int).toNat 0⟩] }, 0) := by
                        rw [hX]
                        exact do_post rfl (by show (59 : Int) < (ord'.length : Nat); omega)
                      have k3 := doF_ok hv k0 (dd2 (c := 2) (a := ((ord'.map (D.int .i64)).length : Int) - 1) (by decide) (by omega))
                      rw [d3] at k3
                      have d4 : doF s nx lp { lnH q lf ord' (setN f) with wire := [⟨false, lf, 59, ord'.getD (59 : Int).toNat 0⟩] } 4 0 = (lnH q lf ord' (setN f), 0) := by
                        rw [do_deliver (p := ⟨false, lf, 59, ord'.getD (59 : Int).toNat 0⟩) rfl]
                        unfold inF
                        rw [if_neg (by simp), if_neg (by simp only [lnH]; omega)]
                        rfl
                      have d2 : doF s nx lp (lnH q lf ord' (setN f)) 8 0 = (lnH q lf ord' (setN f), 0) := do_save
                      have r1 := plan_doX (pB := false) (pS := out) hv k0 (by omega) (dd2 (c := 1) (by decide) hxe) (by decide) (by omega) (do_full hx2 ho)
                      have r2 := plan_doW (pB := true) (pS := out ++ [(1, (x : Int))]) hv k0 (by omega) (dd0 (c := 8) (by decide)) (by decide) (by simp; omega) d2
                      have r3 := plan_doW (pB := true) (pS := out ++ [(1, (x : Int))] ++ [(8, 0)]) hv k0 (by omega) (dd2 (c := 2) (a := ((ord'.map (D.int .i64)).length : Int) - 1) (by decide) (by omega)) (by decide) (by simp; omega) d3
                      have r4 := plan_doW (pB := true) (pS := out ++ [(1, (x : Int))] ++ [(8, 0)] ++ [(2, ((ord'.map (D.int .i64)).length : Int) - 1)]) hv k3 (by omega) (dd0 (c := 4) (by decide)) (by decide) (by simp; omega) d4
                      have r5 := plan_hearW (pB := true) (pS := out ++ [(1, (x : Int))] ++ [(8, 0)] ++ [(2, ((ord'.map (D.int .i64)).length : Int) - 1)] ++ [(4, 0)]) hv k0 (by omega) rfl (by simp; omega)
                      have hmw : (hearF s nx lp (lnH q lf ord' (setN f))).wire = [] := rfl
                      rw [hmw] at r5
                      clear k0 k3 d2 d3 d4 hbl stp1 hmw
                      generalize hearF s nx lp (lnH q lf ord' (setN f)) = m at *
                      generalize out ++ [(1, (x : Int))] ++ [(8, 0)] ++ [(2, ((ord'.map (D.int .i64)).length : Int) - 1)] ++ [(4, 0)] ++ hearL = O5 at *
                      generalize out ++ [(1, (x : Int))] ++ [(8, 0)] ++ [(2, ((ord'.map (D.int .i64)).length : Int) - 1)] ++ [(4, 0)] = O4 at *
                      generalize out ++ [(1, (x : Int))] ++ [(8, 0)] ++ [(2, ((ord'.map (D.int .i64)).length : Int) - 1)] = O3 at *
                      generalize out ++ [(1, (x : Int))] ++ [(8, 0)] = O2 at *
                      generalize out ++ [(1, (x : Int))] = O1 at *
                      unfold plB wrC dsC ltD lnH at *
                      repeat (first | refine zc ?_ | ((first | apply c_l | apply c_q | apply c_lr | apply c_qr); (iterate 2 exact rfl); (focus (first | exact e6 | exact e7)); (iterate 2 exact rfl)) | (apply v_c; (iterate 4 exact rfl); (focus (first | exact e6 | exact e7)); (iterate 2 exact rfl)) | refine zv ?_ | refine zg ?_)
                      refine hcl [(29, 10000), (99, 20000), (98, 20001)] [(10000, 29), (20000, 99), (20001, 98)] r1 ?_
                      repeat (first | refine zc ?_ | ((first | apply c_l | apply c_q | apply c_lr | apply c_qr); (iterate 2 exact rfl); (focus (first | exact e6 | exact e7)); (iterate 2 exact rfl)) | (apply v_c; (iterate 4 exact rfl); (focus (first | exact e6 | exact e7)); (iterate 2 exact rfl)) | refine zv ?_ | refine zg ?_)
                      refine hcl [(29, 10000), (99, 20000), (98, 20001)] [(10000, 29), (20000, 99), (20001, 98)] r2 ?_
                      repeat (first | refine zc ?_ | ((first | apply c_l | apply c_q | apply c_lr | apply c_qr); (iterate 2 exact rfl); (focus (first | exact e6 | exact e7)); (iterate 2 exact rfl)) | (apply v_c; (iterate 4 exact rfl); (focus (first | exact e6 | exact e7)); (iterate 2 exact rfl)) | refine zv ?_ | refine zg ?_)
                      refine hcl [(29, 10000), (99, 20000), (98, 20001)] [(10000, 29), (20000, 99), (20001, 98)] r3 ?_
                      repeat (first | refine zc ?_ | ((first | apply c_l | apply c_q | apply c_lr | apply c_qr); (iterate 2 exact rfl); (focus (first | exact e6 | exact e7)); (iterate 2 exact rfl)) | (apply v_c; (iterate 4 exact rfl); (focus (first | exact e6 | exact e7)); (iterate 2 exact rfl)) | refine zv ?_ | refine zg ?_)
                      refine hcl [(29, 10000), (99, 20000), (98, 20001)] [(10000, 29), (20000, 99), (20001, 98)] r4 ?_
                      repeat (first | refine zc ?_ | ((first | apply c_l | apply c_q | apply c_lr | apply c_qr); (iterate 2 exact rfl); (focus (first | exact e6 | exact e7)); (iterate 2 exact rfl)) | (apply v_c; (iterate 4 exact rfl); (focus (first | exact e6 | exact e7)); (iterate 2 exact rfl)) | refine zv ?_ | refine zg ?_)
                      refine hcl [(29, 10000), (99, 20000), (98, 20001)] [(10000, 29), (20000, 99), (20001, 98)] r5 ?_
                      refine awpL_perm _ rfl ?_
                      repeat (first | refine zc ?_ | refine zv ?_)
                      refine loop_n (.inr (m, O5)) (by show R.2.1 = true; rw [← i7]) ?_ ?_ (by show 0 < (dep s nx lp f).toNat + 1; omega)
                      · exact zs
                      · (as_aux_lemma => kernel_rfl)
                    · rw [rnds_step stp1 (by omega) i4 ho] at i7
                      have k0 : LnOk s nx 60 (lnH q lf ord' (setN f)) := lnP_ok i5 i2 (by omega)
                      have hxe : 0 ≤ (x : Int) ∧ (x : Int) ≤ 999 := by omega
                      have d1 := rnd_do1 (s := s) (lp := lp) (q := q) (lf := lf) (ord := ord') (bel := setN f) hx2 ho
                      have k1 := doF_ok hv k0 (dd2 (c := 1) (by decide) hxe)
                      rw [d1] at k1
                      have hd2 : DskOk s nx ⟨lf, ord' ++ [(x : Int)], ord'.length, setN f⟩ := by
                        refine ⟨i5.life, by simp; omega, fun z hz => ?_, ⟨by show (0 : Int) ≤ (ord'.length : Nat); omega, by first | (simp; done) | (simp; omega)⟩, i5.bel, i5.ris⟩
                        rcases List.mem_append.1 hz with hz | hz
                        · exact i5.ord z hz
                        · simp at hz; subst hz; exact ⟨by omega, hx2⟩
                      have k2 : LnOk s nx 60 (lnP q lf (ord' ++ [(x : Int)]) ord'.length ord'.length (setN f)) := lnP_ok hd2 i2 (by omega)
                      have k3 : LnOk s nx 60 (lnP1 q lf (ord' ++ [(x : Int)]) ord'.length ord'.length (setN f)) := lnP1_ok hd2 i2 (by simp; omega)
                      have k4 : LnOk s nx 60 (lnP q' lf (ord' ++ [(x : Int)]) (ord' ++ [(x : Int)]).length ord'.length (setN f)) := lnP_ok hd2 stp1.q1 (by simp; omega)
                      have hX : (((ord' ++ [(x : Int)]).map (D.int .i64)).length : Int) - 1 = ord'.length := by simp
                      have d3 := post_do1 (s := s) (nx := nx) (lp := lp) (st := q) (lf := lf) (ord := ord' ++ [(x : Int)]) (tk := ord'.length) (su := ord'.length) (bel := setN f) (by simp; omega)
                      have d4 := rnd_do4 (s := s) (nx := nx) (lp := lp) (q := q) (lf := lf) (ord := ord') (bel := setN f) (x := x)
                      rw [stp1.a1] at d4
                      have r1 := plan_doW (pB := false) (pS := out) hv k0 (by omega) (dd2 (c := 1) (by decide) hxe) (by decide) (by omega) d1
                      have r2 := plan_doW (pB := false) (pS := out ++ [(1, (x : Int))]) hv k1 (by omega) (dd0 (c := 8) (by decide)) (by decide) (by simp; omega) rnd_do2
                      have r3 := plan_doW (pB := false) (pS := out ++ [(1, (x : Int))] ++ [(8, 0)]) hv k2 (by omega) (dd2 (c := 2) (a := (((ord' ++ [(x : Int)]).map (D.int .i64)).length : Int) - 1) (by decide) (by omega)) (by decide) (by simp; omega) (by rw [hX]; exact d3)
                      have r4 := plan_doW (pB := false) (pS := out ++ [(1, (x : Int))] ++ [(8, 0)] ++ [(2, (((ord' ++ [(x : Int)]).map (D.int .i64)).length : Int) - 1)]) hv k3 (by omega) (dd0 (c := 4) (by decide)) (by decide) (by simp; omega) d4
                      have r5 := plan_hearW (pB := false) (pS := out ++ [(1, (x : Int))] ++ [(8, 0)] ++ [(2, (((ord' ++ [(x : Int)]).map (D.int .i64)).length : Int) - 1)] ++ [(4, 0)]) hv k4 (by omega) rfl (by simp; omega)
                      rw [rnd_hear, stp1.y2, hbl] at r5
                      have hfin : out ++ [(1, (x : Int))] ++ [(8, 0)] ++ [(2, (((ord' ++ [(x : Int)]).map (D.int .i64)).length : Int) - 1)] ++ [(4, 0)] ++ hearL = out ++ rndL x ord'.length := by rw [hX]; simp [rndL]
                      rw [hfin] at r5
                      have hdn : DskOk s nx ⟨lf, ord' ++ [(x : Int)], (ord' ++ [(x : Int)]).length, setN (bel nx lp f x y)⟩ := ⟨hd2.life, hd2.len, hd2.ord, ⟨by show (0 : Int) ≤ ((ord' ++ [(x : Int)]).length : Nat); omega, Int.le_refl _⟩, fun z hz => by have := setN_lt stp1.f1 hz; omega, setTo_pairwise _ 64⟩
                      have hfl : (out ++ rndL x ord'.length).length = out.length + 7 := by simp [rndL, hearL]
                      have hoe : (ord' ++ [(x : Int)]).length = ord'.length + 1 := by simp
                      have hd1 := stp1.d1
                      have hf1 := stp1.f1
                      have hq1 := stp1.q1
                      clear k0 k1 k2 k3 k4 d1 d3 d4 hfin hbl stp1
                      generalize hN : out ++ rndL x ord'.length = On at *
                      generalize out ++ [(1, (x : Int))] ++ [(8, 0)] ++ [(2, (((ord' ++ [(x : Int)]).map (D.int .i64)).length : Int) - 1)] ++ [(4, 0)] = O4 at *
                      generalize out ++ [(1, (x : Int))] ++ [(8, 0)] ++ [(2, (((ord' ++ [(x : Int)]).map (D.int .i64)).length : Int) - 1)] = O3 at *
                      generalize out ++ [(1, (x : Int))] ++ [(8, 0)] = O2 at *
                      generalize out ++ [(1, (x : Int))] = O1 at *
                      generalize hfb : bel nx lp f x y = f' at *
                      generalize hob : ord' ++ [(x : Int)] = ob at *
                      unfold plB wrC dsC ltD rnd1 lnP1 lnP lnH at *
                      repeat (first | refine zc ?_ | ((first | apply c_l | apply c_q | apply c_lr | apply c_qr); (iterate 2 exact rfl); (focus (first | exact e6 | exact e7)); (iterate 2 exact rfl)) | (apply v_c; (iterate 4 exact rfl); (focus (first | exact e6 | exact e7)); (iterate 2 exact rfl)) | refine zv ?_ | refine zg ?_)
                      refine hcl [(29, 10000), (99, 20000), (98, 20001)] [(10000, 29), (20000, 99), (20001, 98)] r1 ?_
                      repeat (first | refine zc ?_ | ((first | apply c_l | apply c_q | apply c_lr | apply c_qr); (iterate 2 exact rfl); (focus (first | exact e6 | exact e7)); (iterate 2 exact rfl)) | (apply v_c; (iterate 4 exact rfl); (focus (first | exact e6 | exact e7)); (iterate 2 exact rfl)) | refine zv ?_ | refine zg ?_)
                      refine hcl [(29, 10000), (99, 20000), (98, 20001)] [(10000, 29), (20000, 99), (20001, 98)] r2 ?_
                      repeat (first | refine zc ?_ | ((first | apply c_l | apply c_q | apply c_lr | apply c_qr); (iterate 2 exact rfl); (focus (first | exact e6 | exact e7)); (iterate 2 exact rfl)) | (apply v_c; (iterate 4 exact rfl); (focus (first | exact e6 | exact e7)); (iterate 2 exact rfl)) | refine zv ?_ | refine zg ?_)
                      refine hcl [(29, 10000), (99, 20000), (98, 20001)] [(10000, 29), (20000, 99), (20001, 98)] r3 ?_
                      repeat (first | refine zc ?_ | ((first | apply c_l | apply c_q | apply c_lr | apply c_qr); (iterate 2 exact rfl); (focus (first | exact e6 | exact e7)); (iterate 2 exact rfl)) | (apply v_c; (iterate 4 exact rfl); (focus (first | exact e6 | exact e7)); (iterate 2 exact rfl)) | refine zv ?_ | refine zg ?_)
                      refine hcl [(29, 10000), (99, 20000), (98, 20001)] [(10000, 29), (20000, 99), (20001, 98)] r4 ?_
                      repeat (first | refine zc ?_ | ((first | apply c_l | apply c_q | apply c_lr | apply c_qr); (iterate 2 exact rfl); (focus (first | exact e6 | exact e7)); (iterate 2 exact rfl)) | (apply v_c; (iterate 4 exact rfl); (focus (first | exact e6 | exact e7)); (iterate 2 exact rfl)) | refine zv ?_ | refine zg ?_)
                      refine hcl [(29, 10000), (99, 20000), (98, 20001)] [(10000, 29), (20000, 99), (20001, 98)] r5 ?_
                      refine awpL_perm _ rfl ?_
                      repeat (first | refine zc ?_ | refine zv ?_)
                      refine loop_n (.inl (f', q', ob, On, k - 1)) ⟨hf1, hq1, hd1.1, by show dep s nx lp f' ≤ ((k - 1 : Nat) : Int); omega, hdn, by show On.length ≤ 136 + 7 * ob.length; omega, i7⟩ ?_ ?_ (by show (dep s nx lp f').toNat + 1 < (dep s nx lp f).toNat + 1; omega)
                      · exact zs
                      · (as_aux_lemma => kernel_rfl)
                ·
                  dsimp only at hI ⊢
                  rw [if_pos (.inl hI)]
                  unfold plB wrC dsC
                  have hml : (m.d.bel.map (D.int .i64)).length = m.d.bel.length := by simp
                  by_cases hbl : (1 : Int) < (m.d.bel.map (D.int .i64)).length
                  · repeat (first | refine zc ?_ | refine zv ?_ | refine zg ?_)
                    (refine awp_ret ?_; (repeat (first | refine then_r ?_ | refine block_r ?_ | refine loop_r ?_)); apply ret_okC (.inr rfl); (focus exact rfl))
                    rfl
                  · repeat (first | refine zc ?_ | refine zv ?_ | refine zg ?_)
                    (refine awp_ret ?_; (repeat (first | refine then_r ?_ | refine block_r ?_ | refine loop_r ?_)); apply ret_okC (.inr rfl); (focus exact rfl))
                    rfl
  · rw [if_neg ha]
    generalize askC s st nx lp ds = c at *
    unfold ltD deedsD at *
    refine ac_introC tabIs _ Tryz.func29 rfl rfl Tryz.ntmps29 rfl rfl fun w0 ok0 => ?_
    repeat (first | refine zc ?_ | ((first | apply c_l | apply c_q | apply c_lr | apply c_qr); (iterate 2 exact rfl); (focus (first | exact e1)); (iterate 2 exact rfl)) | (apply v_c; (iterate 4 exact rfl); (focus (first | exact e1)); (iterate 2 exact rfl)) | refine zv ?_)
    (refine awp_ret ?_; (repeat (first | refine then_r ?_ | refine block_r ?_ | refine loop_r ?_)); apply ret_okC (.inr rfl); (focus exact rfl))
    rfl
end Go.Proofs.YtampglcgipefnaaGreat
