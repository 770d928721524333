/- The law of the plan home. No condition. -/
import Derived.Test.YtampglcgipefnaaGreatRi
import Derived.Test.YtampglcgipefnaaGreatQd
namespace Go.Proofs.YtampglcgipefnaaGreat
open Go
attribute [local irreducible] awp awpL awpQL awpQ awpM pWalk Qt AC thenQ blockQ loopQ OpTo
set_option linter.unusedVariables false
set_option linter.unusedSimpArgs false
set_option maxHeartbeats 2000000
attribute [local irreducible] HC

section
variable {s : Int} {nx : List (List Int)} {lp : List Int}
def allV (q : List (Int × Int)) : Prop := ∀ p ∈ q, vdeed p.1 p.2 = true
theorem allV_append {a b : List (Int × Int)} (h1 : allV a) (h2 : allV b) : allV (a ++ b) := fun p hp => by
  rcases List.mem_append.1 hp with h | h
  · exact h1 p h
  · exact h2 p h
theorem vd_num {k a : Int} (h : k = 1 ∨ k = 2 ∨ k = 4 ∨ k = 5 ∨ k = 6 ∨ k = 7) (h2 : 0 ≤ a ∧ a ≤ 999) : vdeed k a = true := by
  rcases h with rfl | rfl | rfl | rfl | rfl | rfl <;> simp [vdeed, inB, dtell, dtold] <;> omega
theorem hear_V : allV hearL := fun p hp => by
  simp [hearL] at hp
  rcases hp with rfl | rfl | rfl <;> simp [vdeed, inB, dtell, dtold]
theorem drops_V {i : Nat} : allV (List.replicate i (6, 0)) := fun p hp => by
  have := List.eq_of_mem_replicate hp
  subst this
  exact vd_num (by simp) (by simp)
theorem pstL_V {tk : Int} {j : Nat} (h : 0 ≤ tk ∧ tk + j ≤ 999) : allV (pstL tk j) := fun p hp => by
  simp only [pstL, List.mem_flatMap, List.mem_range] at hp
  obtain ⟨i, hi, hp⟩ := hp
  simp at hp
  rcases hp with rfl | rfl
  · exact vd_num (by simp) (by show 0 ≤ tk + (i : Int) ∧ tk + (i : Int) ≤ 999; omega)
  · exact vd_num (by simp) (by simp)
theorem rndL_V {x k : Int} (h1 : 0 ≤ x ∧ x ≤ 999) (h2 : 0 ≤ k ∧ k ≤ 999) : allV (rndL x k) := allV_append (fun p hp => by
  simp at hp
  rcases hp with rfl | rfl | rfl | rfl
  · exact vd_num (by simp) h1
  · simp [vdeed, inB, dtell, dtold]
  · exact vd_num (by simp) h2
  · exact vd_num (by simp) (by simp)) hear_V
theorem rnds_V (hv : litOk s nx lp = true) : ∀ (k f : Nat) (q : Int) (ord : List Int) (out : List (Int × Int)), dep s nx lp f ≤ k → 0 ≤ dep s nx lp f → f < 2 ^ s.toNat → (0 ≤ q ∧ q < s) → ord.length ≤ 60 → allV out → allV (rnds s nx lp k f q ord out).1
  | k, f, q, ord, out, hk, h0, hf, hq, ho60, hw => by
    by_cases hz : dep s nx lp f = 0
    · rw [rnds_end hz]
      exact hw
    · by_cases ho : ord.length = 60
      · rw [rnds_full hz (by omega) ho]
        exact hw
      · obtain ⟨x, y, q', st⟩ := stp hv hf hq (by omega)
        rw [rnds_step st (by omega) hk ho]
        have hd := st.d1
        have hn := (lv_of hv).n1
        have hx := st.x1
        cases k with
        | zero => omega
        | succ k => exact rnds_V hv k _ q' _ _ (by omega) hd.1 st.f1 st.q1 (by simp; omega) (allV_append hw (rndL_V (by omega) (by omega)))
/-- Where the plan leads. -/
theorem home_end {st : Int} {ds : List (Int × Int)} (hv : litOk s nx lp = true) (hst : 0 ≤ st ∧ st < s) (hd : allV ds) (hl : ds.length ≤ 400) (hc : (hmD s st nx lp ds).2 = 0) :
    allV (hmD s st nx lp ds).1 ∧ ds.length + (hmD s st nx lp ds).1.length ≤ 400 ∧ doneF (codesF s nx lp (ln0 s st) (ds ++ (hmD s st nx lp ds).1)) = doneF (codesF s nx lp (ln0 s st) ds) + (hmD s st nx lp ds).1.length ∧
      ∃ q lf ord, runF s nx lp (ln0 s st) (ds ++ (hmD s st nx lp ds).1) = lnH q lf ord [q] := by
  have v := lv_of hv
  have hs := v.s1
  have hdd : ∀ p ∈ ds, ddOk p := fun p hp => ddOk_of (hd p hp)
  have hln := runF_ok hv ds (ln0_ok (nx := nx) hst) hdd
  obtain ⟨hs', hi⟩ := runF_inv hv ds (ln0_ok (nx := nx) hst) (lnInv0 hst) hdd
  have F := hmF hv hln hi
  have hrun : ∀ q, runF s nx lp (ln0 s st) (ds ++ q) = runF s nx lp (runF s nx lp (ln0 s st) ds) q := fun q => runF_append _ _ _
  have hcod : ∀ q, codesF s nx lp (ln0 s st) (ds ++ q) = codesF s nx lp (ln0 s st) ds ++ codesF s nx lp (runF s nx lp (ln0 s st) ds) q := fun q => codesF_append _ _ _
  unfold hmD at hc ⊢
  rw [if_pos (ask_of hv hst hd hl)] at hc ⊢
  by_cases hdp : dep s nx lp (bitsL 0 (hmB s nx lp (runF s nx lp (ln0 s st) ds))) < 0
  · rw [if_pos hdp] at hc
    cases hc
  rw [if_neg hdp] at hc ⊢
  by_cases hbd : (hmR s nx lp (runF s nx lp (ln0 s st) ds)).2.1 = true ∨ 400 < ds.length + (hmR s nx lp (runF s nx lp (ln0 s st) ds)).1.length
  · rw [if_pos hbd] at hc
    cases hc
  rw [if_neg hbd]
  clear hc
  dsimp only
  have hbad : (hmR s nx lp (runF s nx lp (ln0 s st) ds)).2.1 = false := by
    cases e : (hmR s nx lp (runF s nx lp (ln0 s st) ds)).2.1 with
    | false => rfl
    | true => exact absurd (.inl e) hbd
  have hlen : ¬ 400 < ds.length + (hmR s nx lp (runF s nx lp (ln0 s st) ds)).1.length := fun h => hbd (.inr h)
  have hfull := hdd
  have hinvAll : ∀ q, (∀ p ∈ q, ddOk p) → ∃ hs', LnInv s nx lp (runF s nx lp (ln0 s st) (ds ++ q)) hs' := fun q hq => runF_inv hv (ds ++ q) (ln0_ok (nx := nx) hst) (lnInv0 hst) fun p hp => by
    rcases List.mem_append.1 hp with h | h
    · exact hdd p h
    · exact hq p h
  generalize runF s nx lp (ln0 s st) ds = n at *
  have hw10 := hln.wl
  have hok := F.ok
  rw [F.d] at hok
  have hol : (hmP s nx lp n).ord.length ≤ 60 := hok.len
  have t0 := F.t0
  have t1 := F.t1
  have hH : hearF s nx lp { n with wire := [] } = lnP n.st n.life (hmP s nx lp n).ord n.tk n.tk (hmP s nx lp n).bel := by
    show (⟨n.st, n.life, n.tk, hmP s nx lp n, hmP s nx lp n, []⟩ : Ln) = _
    rw [F.d]
    rfl
  -- the way to the known line
  have w1 := went_drops (s := s) (nx := nx) (lp := lp) n.wire.length n (Nat.le_refl _)
  rw [List.drop_length] at w1
  have w2 := went_hear (s := s) (nx := nx) (lp := lp) (n := { n with wire := [] }) rfl
  rw [hH] at w2
  have w3 := went_posts (s := s) (nx := nx) (lp := lp) (st := n.st) (lf := n.life) (ord := (hmP s nx lp n).ord) (tk := n.tk) (su := n.tk) (bel := (hmP s nx lp n).bel) t0 (hmK s nx lp n) (by omega)
  rw [t1] at w3
  have w4 := went_hear (s := s) (nx := nx) (lp := lp) (n := lnP (stP nx n.st (hmP s nx lp n).ord n.tk (hmK s nx lp n)) n.life (hmP s nx lp n).ord (hmP s nx lp n).ord.length n.tk (hmP s nx lp n).bel) rfl
  rw [hear_P (by omega)] at w4
  have w := ((w1.append w2).append w3).append w4
  have hw : Went s nx lp n (hmL s nx lp n) (lnH (hmQ s nx lp n) n.life (hmP s nx lp n).ord (setN (bitsL 0 (hmB s nx lp n)))) := by rw [F.b3]; exact w
  have hV : allV (hmL s nx lp n) := allV_append (allV_append (allV_append drops_V hear_V) (pstL_V (by omega))) hear_V
  obtain ⟨r1, r2, r3⟩ := rnds_went (s := s) (nx := nx) (lp := lp) hv _ _ (hmQ s nx lp n) (hmP s nx lp n).ord (hmL s nx lp n) (show dep s nx lp (bitsL 0 (hmB s nx lp n)) ≤ ((dep s nx lp (bitsL 0 (hmB s nx lp n))).toNat : Nat) by omega) (by omega) F.f F.q hw hbad
  have rV : allV (hmR s nx lp n).1 := rnds_V hv _ _ (hmQ s nx lp n) (hmP s nx lp n).ord (hmL s nx lp n) (show dep s nx lp (bitsL 0 (hmB s nx lp n)) ≤ ((dep s nx lp (bitsL 0 (hmB s nx lp n))).toNat : Nat) by omega) (by omega) F.f F.q hol hV
  have r1 : Went s nx lp n (hmR s nx lp n).1 (lnH (hmR s nx lp n).2.2.2.1 n.life (hmR s nx lp n).2.2.2.2 (setN (hmR s nx lp n).2.2.1)) := r1
  have r2 : dep s nx lp (hmR s nx lp n).2.2.1 = 0 := r2
  have r3 : (hmR s nx lp n).2.2.1 < 2 ^ s.toNat := r3
  obtain ⟨hs2, hi2⟩ := hinvAll (hmR s nx lp n).1 fun p hp => ddOk_of (rV p hp)
  have hz : ∀ l : List Int, (∀ c ∈ l, c = 0) → doneF l = l.length := fun l => by
    induction l with
    | nil => intro _; rfl
    | cons c l ih =>
      intro hl
      have h0 := hl c (List.mem_cons_self ..)
      subst h0
      have := ih fun c hc => hl c (List.mem_cons_of_mem _ hc)
      simp [doneF, this]
      omega
  refine ⟨rV, by omega, ?_, (hmR s nx lp n).2.2.2.1, n.life, (hmR s nx lp n).2.2.2.2, ?_⟩
  · rw [hcod, doneF_append, hz _ r1.2, codesF_len]
  · rw [hrun, r1.1] at hi2
    rw [hrun, r1.1]
    generalize (hmR s nx lp n).2.2.2.1 = q at *
    generalize (hmR s nx lp n).2.2.2.2 = ord at *
    generalize (hmR s nx lp n).2.2.1 = f at *
    have hpw := pow_le (m := s.toNat) (by omega)
    have h1 := (len_sm (by omega)).2 (dep_zero.1 r2)
    have hm := (hi2.ds rfl).2.2
    have hq : hs2.getD (lnH q n.life ord (setN f)).d.sure.toNat 0 = q := hi2.hst
    rw [hq] at hm
    have hm : q ∈ setN f := hm
    have : setN f = [q] := by
      cases e : setN f with
      | nil => rw [e] at hm; cases hm
      | cons a l =>
        rw [e] at hm h1
        cases l with
        | nil => simp at hm; rw [hm]
        | cons b l => simp at h1
    rw [this]
end

theorem law_FnHome {code more : List Int} (hb : BytesOk code) (hm : BytesOk more) : AC Tryz.prog 8 [u8s code, u8s more] (.bool true) := by
  have eL := laws_a2Long (a := code) (b := more)
  by_cases hl : (decide (3000 < code.length) || decide (3000 < more.length)) = true
  · rw [hl] at eL
    refine ac_intro tabIs _ Tryz.func8 rfl rfl Tryz.ntmps8 rfl rfl fun w0 ok0 => ?_
    repeat (first | refine zc ?_ | ((first | apply c_l | apply c_q | apply c_lr | apply c_qr); (iterate 2 exact rfl); (focus (first | exact eL)); (iterate 2 exact rfl)) | (apply v_c; (iterate 4 exact rfl); (focus (first | exact eL)); (iterate 2 exact rfl)) | refine zv ?_)
    (refine awp_ret ?_; (repeat (first | refine then_r ?_ | refine block_r ?_ | refine loop_r ?_)); apply ret_ok (.inr rfl); (focus exact rfl))
    rfl
  · rw [Bool.not_eq_true] at hl
    rw [hl] at eL
    have eA := spec_A2Lit hb
    have hv := drawn_ok hb
    generalize (drA code ⟨0, 0⟩).1 = s at *
    generalize (drA code ⟨0, 0⟩).2.1 = nx at *
    generalize (drP code ⟨0, 0⟩).1 = lp at *
    have v := lv_of hv
    have hs1 := v.s1
    have eT := laws_a2At (b := more) (n := s) hm (by omega)
    have hst := atV_range (b := more) (n := s) (by omega)
    generalize atV more s = st at *
    have eD := spec_A2Deeds (s := s) (st := st) (nx := nx) (lp := lp) hm hv hst
    obtain ⟨hdl, hdv⟩ := dsV_ok (code := more) (s := s) (st := st) (nx := nx) (lp := lp) hm hv hst
    generalize dsV more s st nx lp = ds at *
    have hle : (ds.map deedD).length = ds.length := by simp
    have f1 := spec_HomeDeeds (s := s) (st := st) (nx := nx) (lp := lp) (ds := ds) (rowsOk_of v) (by have := v.lp; omega) (by omega)
    have f2 : AC Tryz.prog 30 [ltD s nx lp, .int .i64 st, deedsD ds] (.tup [deedsD (hmD s st nx lp ds).1, .int .i64 (hmD s st nx lp ds).2]) :=
      ac_of_hc (impl_HomeDeedsH (s := s) (st := st) (nx := nx) (lp := lp) (ds := ds) (rowsOk_of v) (by have := v.lp; omega) (by omega)) rfl
    by_cases hc : (hmD s st nx lp ds).2 = 0
    · obtain ⟨pv, p4, pd, q, lf, ord, pr⟩ := home_end hv hst hdv (by omega) hc
      have c1 := impl_LineAfter (st := st) hv hst hdv (by omega)
      have c2 := impl_LineAfter (st := st) (ds := ds ++ (hmD s st nx lp ds).1) hv hst (allV_append hdv pv) (by rw [List.length_append]; omega)
      have c3 := impl_ToldAfter (st := st) (ds := ds ++ (hmD s st nx lp ds).1) hv hst (allV_append hdv pv) (by rw [List.length_append]; omega)
      rw [pd, pr] at c2
      rw [pr] at c3
      rw [hc] at f1 f2
      generalize (hmD s st nx lp ds).1 = pl at *
      have hpl : (pl.map deedD).length = pl.length := by simp
      have hold : ∀ q ∈ [ord], True := fun _ _ => trivial
      have hok : LnOk s nx _ (runF s nx lp (ln0 s st) (ds ++ pl)) := runF_ok hv (ds ++ pl) (ln0_ok (nx := nx) hst) fun p hp => ddOk_of (allV_append hdv pv p hp)
      rw [pr] at hok
      have hol : ord.length ≤ 60 := hok.d.len
      have htl : toldD nx (lnH q lf ord [q]).d = [q] := by
        show toldF nx [q] [q] (ord.drop ((ord.length : Nat) : Int).toNat) = [q]
        rw [Int.toNat_natCast, List.drop_length]
        rfl
      have hkn : decide ((lnH q lf ord [q]).d.life = (lnH q lf ord [q]).life) = true := decide_eq_true rfl
      rw [htl, hkn] at c3
      have e8 := spec_SameDesk (d := ⟨lf, ord, ord.length, [q]⟩) (by show ord.length ≤ 1000; omega) (by simp)
      have hE : deedsD (ds ++ pl) = .lst (([] ++ ds.map deedD) ++ pl.map deedD) := by simp [deedsD]
      rw [hE] at c2 c3
      have hel1 : elsOk 2 (ds.map deedD) = true := elsOk_of fun y hy => by
        obtain ⟨p, _, rfl⟩ := List.mem_map.1 hy
        exact ⟨rfl, rfl⟩
      have hel2 : elsOk 2 (pl.map deedD) = true := elsOk_of fun y hy => by
        obtain ⟨p, _, rfl⟩ := List.mem_map.1 hy
        exact ⟨rfl, rfl⟩
      have hx0 : ([q].map (D.int .i64))[(0 : Int).toNat]? = some (.int .i64 q) := rfl
      generalize runF s nx lp (ln0 s st) ds = n at *
      have hdn := doneF_le (codesF s nx lp (ln0 s st) ds)
      rw [codesF_len] at hdn
      generalize doneF (codesF s nx lp (ln0 s st) ds) = dn at *
      clear pv pd pr hok htl hkn hE
      unfold ltD deedsD lnL dskD dskL lnH at *
      refine ac_intro tabIs _ Tryz.func8 rfl rfl Tryz.ntmps8 rfl rfl fun w0 ok0 => ?_
      repeat (first | refine zcr ?_ | ((first | apply c_l | apply c_q | apply c_lr | apply c_qr); (iterate 2 exact rfl); (focus (first | exact eL | exact eA | exact eT | exact eD | exact f1 | exact f2)); (iterate 2 exact rfl)) | (apply v_c; (iterate 4 exact rfl); (focus (first | exact eL | exact eA | exact eT | exact eD | exact f1 | exact f2)); (iterate 2 exact rfl)) | refine zv ?_)
      refine awp_region ?_
      repeat (first | refine zcr ?_ | ((first | apply c_l | apply c_q | apply c_lr | apply c_qr); (iterate 2 exact rfl); (focus (first | exact eL | exact eA | exact eT | exact eD | exact f1 | exact f2)); (iterate 2 exact rfl)) | (apply v_c; (iterate 4 exact rfl); (focus (first | exact eL | exact eA | exact eT | exact eD | exact f1 | exact f2)); (iterate 2 exact rfl)) | refine zv ?_)
      refine awp_region ?_
      repeat (first | refine zcr ?_ | ((first | apply c_l | apply c_q | apply c_lr | apply c_qr); (iterate 2 exact rfl); (focus (first | exact eL | exact eA | exact eT | exact eD | exact f1 | exact f2)); (iterate 2 exact rfl)) | (apply v_c; (iterate 4 exact rfl); (focus (first | exact eL | exact eA | exact eT | exact eD | exact f1 | exact f2)); (iterate 2 exact rfl)) | refine zv ?_)
      refine awp_region ?_
      repeat (first | refine zcr ?_ | ((first | apply c_l | apply c_q | apply c_lr | apply c_qr); (iterate 2 exact rfl); (focus (first | exact eL | exact eA | exact eT | exact eD | exact f1 | exact f2)); (iterate 2 exact rfl)) | (apply v_c; (iterate 4 exact rfl); (focus (first | exact eL | exact eA | exact eT | exact eD | exact f1 | exact f2)); (iterate 2 exact rfl)) | refine zv ?_)
      refine awp_region ?_
      repeat (first | refine zcr ?_ | ((first | apply c_l | apply c_q | apply c_lr | apply c_qr); (iterate 2 exact rfl); (focus (first | exact eL | exact eA | exact eT | exact eD | exact f1 | exact f2)); (iterate 2 exact rfl)) | (apply v_c; (iterate 4 exact rfl); (focus (first | exact eL | exact eA | exact eT | exact eD | exact f1 | exact f2)); (iterate 2 exact rfl)) | refine zv ?_)
      refine awp_region ?_
      repeat (first | refine zcr ?_ | ((first | apply c_l | apply c_q | apply c_lr | apply c_qr); (iterate 2 exact rfl); (focus (first | exact eL | exact eA | exact eT | exact eD | exact f1 | exact f2)); (iterate 2 exact rfl)) | (apply v_c; (iterate 4 exact rfl); (focus (first | exact eL | exact eA | exact eT | exact eD | exact f1 | exact f2)); (iterate 2 exact rfl)) | refine zv ?_)
      refine awp_region ?_
      repeat (first | refine zcr ?_ | ((first | apply c_l | apply c_q | apply c_lr | apply c_qr); (iterate 2 exact rfl); (focus (first | exact eL | exact eA | exact eT | exact eD | exact f1 | exact f2)); (iterate 2 exact rfl)) | (apply v_c; (iterate 4 exact rfl); (focus (first | exact eL | exact eA | exact eT | exact eD | exact f1 | exact f2)); (iterate 2 exact rfl)) | refine zv ?_)
      refine awp_region ?_
      repeat (first | refine zcr ?_ | ((first | apply c_l | apply c_q | apply c_lr | apply c_qr); (iterate 2 exact rfl); (focus (first | exact eL | exact eA | exact eT | exact eD | exact f1 | exact f2)); (iterate 2 exact rfl)) | (apply v_c; (iterate 4 exact rfl); (focus (first | exact eL | exact eA | exact eT | exact eD | exact f1 | exact f2)); (iterate 2 exact rfl)) | refine zv ?_)
      refine awp_region ?_
      repeat (first | refine zcr ?_ | ((first | apply c_l | apply c_q | apply c_lr | apply c_qr); (iterate 2 exact rfl); (focus (first | exact eL | exact eA | exact eT | exact eD | exact f1 | exact f2)); (iterate 2 exact rfl)) | (apply v_c; (iterate 4 exact rfl); (focus (first | exact eL | exact eA | exact eT | exact eD | exact f1 | exact f2)); (iterate 2 exact rfl)) | refine zv ?_)
      refine awp_region ?_
      repeat (first | refine zcr ?_ | ((first | apply c_l | apply c_q | apply c_lr | apply c_qr); (iterate 2 exact rfl); (focus (first | exact eL | exact eA | exact eT | exact eD | exact f1 | exact f2)); (iterate 2 exact rfl)) | (apply v_c; (iterate 4 exact rfl); (focus (first | exact eL | exact eA | exact eT | exact eD | exact f1 | exact f2)); (iterate 2 exact rfl)) | refine zv ?_)
      refine awp_sub (s' := [(5, .ref 5 0), (6, .d (.int .i64 st)), (7, .d (.lst (ds.map deedD))), (10, .d (.lst (pl.map deedD)))]) (by exact zs) ?_
      refine awp_permTo [(5, .box [.d (.int .i64 s), .d (rows nx), .d (ints lp)])] rfl ?_
      refine awp_region ?_
      repeat (first | refine zcr ?_ | ((first | apply c_l | apply c_q | apply c_lr | apply c_qr); (iterate 2 exact rfl); (focus (first | exact c1)); (iterate 2 exact rfl)) | (apply v_c; (iterate 4 exact rfl); (focus (first | exact c1)); (iterate 2 exact rfl)) | refine zv ?_)
      refine awp_sub (s' := [(5, .ref 5 0), (6, .d (.int .i64 st)), (7, .d (.lst (ds.map deedD))), (10, .d (.lst (pl.map deedD))), (12, .ref 12 0), (13, .d (.int .i64 (dn : Nat))), (14, .d (.int .i64 0))]) (by exact zs) ?_
      refine awp_permTo [(5, .box [.d (.int .i64 s), .d (rows nx), .d (ints lp)]), (12, .box [.d (.int .i64 n.st), .d (.int .i64 n.life), .d (.int .i64 n.tk), .d (.int .i64 n.d.life), .d (ints n.d.ord), .d (.int .i64 n.d.sure), .d (ints n.d.bel), .d (.int .i64 n.sv.life), .d (ints n.sv.ord), .d (.int .i64 n.sv.sure), .d (ints n.sv.bel), .d (.lst (n.wire.map pkD))])] rfl ?_
      refine awp_region ?_
      repeat (first | refine v_w (t := 63) ?_ | refine zcr ?_ | refine u_w (t := 63) ?_ | refine zv ?_)
      (apply lto; (focus (apply wo_append; (iterate 14 exact rfl); exact hel1; (simp; omega))))
      repeat (first | refine zcr ?_ | refine zv ?_)
      (apply lto; (focus (apply wo_append; (iterate 14 exact rfl); exact hel2; (simp; omega))))
      repeat (first | refine zcr ?_ | refine zv ?_)
      refine awp_freeze 63 rfl rfl ?_
      refine awp_sub (s' := [(5, .ref 5 0), (6, .d (.int .i64 st)), (7, .d (.lst (ds.map deedD))), (10, .d (.lst (pl.map deedD))), (12, .ref 12 0), (13, .d (.int .i64 (dn : Nat))), (14, .d (.int .i64 0)), (15, .d (.lst (([] ++ ds.map deedD) ++ pl.map deedD)))]) (by exact zs) ?_
      refine awp_permTo [(5, .box [.d (.int .i64 s), .d (rows nx), .d (ints lp)]), (12, .box [.d (.int .i64 n.st), .d (.int .i64 n.life), .d (.int .i64 n.tk), .d (.int .i64 n.d.life), .d (ints n.d.ord), .d (.int .i64 n.d.sure), .d (ints n.d.bel), .d (.int .i64 n.sv.life), .d (ints n.sv.ord), .d (.int .i64 n.sv.sure), .d (ints n.sv.bel), .d (.lst (n.wire.map pkD))])] rfl ?_
      refine awp_region ?_
      repeat (first | refine zcr ?_ | ((first | apply c_l | apply c_q | apply c_lr | apply c_qr); (iterate 2 exact rfl); (focus (first | exact c2)); (iterate 2 exact rfl)) | (apply v_c; (iterate 4 exact rfl); (focus (first | exact c2)); (iterate 2 exact rfl)) | refine zv ?_)
      refine awp_sub (s' := [(5, .ref 5 0), (6, .d (.int .i64 st)), (7, .d (.lst (ds.map deedD))), (10, .d (.lst (pl.map deedD))), (12, .ref 12 0), (13, .d (.int .i64 (dn : Nat))), (14, .d (.int .i64 0)), (15, .d (.lst (([] ++ ds.map deedD) ++ pl.map deedD))), (16, .ref 16 0), (17, .d (.int .i64 ((dn + pl.length : Nat) : Int))), (18, .d (.int .i64 0))]) (by exact zs) ?_
      refine awp_permTo [(5, .box [.d (.int .i64 s), .d (rows nx), .d (ints lp)]), (12, .box [.d (.int .i64 n.st), .d (.int .i64 n.life), .d (.int .i64 n.tk), .d (.int .i64 n.d.life), .d (ints n.d.ord), .d (.int .i64 n.d.sure), .d (ints n.d.bel), .d (.int .i64 n.sv.life), .d (ints n.sv.ord), .d (.int .i64 n.sv.sure), .d (ints n.sv.bel), .d (.lst (n.wire.map pkD))]), (16, .box [.d (.int .i64 q), .d (.int .i64 lf), .d (.int .i64 (ord.length : Nat)), .d (.int .i64 lf), .d (ints ord), .d (.int .i64 (ord.length : Nat)), .d (ints [q]), .d (.int .i64 lf), .d (ints ord), .d (.int .i64 (ord.length : Nat)), .d (ints [q]), .d (.lst [])])] rfl ?_
      have hdq : ((dn + pl.length : Nat) : Int) = (dn : Nat) + ((pl.map deedD).length : Nat) := by omega
      repeat (first | refine zc ?_ | ((first | apply c_l | apply c_q | apply c_lr | apply c_qr); (iterate 2 exact rfl); (focus (first | exact c3 | exact e8)); (iterate 2 exact rfl)) | (apply v_c; (iterate 4 exact rfl); (focus (first | exact c3 | exact e8)); (iterate 2 exact rfl)) | refine zv ?_ | refine zg ?_)
      (refine awp_ret ?_; (repeat (first | refine then_r ?_ | refine block_r ?_ | refine loop_r ?_)); apply ret_ok (.inr rfl); (focus exact rfl))
      rw [decide_eq_true rfl]
    · generalize hmD s st nx lp ds = o at *
      unfold ltD deedsD at *
      refine ac_intro tabIs _ Tryz.func8 rfl rfl Tryz.ntmps8 rfl rfl fun w0 ok0 => ?_
      repeat (first | refine zc ?_ | ((first | apply c_l | apply c_q | apply c_lr | apply c_qr); (iterate 2 exact rfl); (focus (first | exact eL | exact eA | exact eT | exact eD | exact f1 | exact f2)); (iterate 2 exact rfl)) | (apply v_c; (iterate 4 exact rfl); (focus (first | exact eL | exact eA | exact eT | exact eD | exact f1 | exact f2)); (iterate 2 exact rfl)) | refine zv ?_)
      (refine awp_ret ?_; (repeat (first | refine then_r ?_ | refine block_r ?_ | refine loop_r ?_)); apply ret_ok (.inr rfl); (focus exact rfl))
      rfl
end Go.Proofs.YtampglcgipefnaaGreat
