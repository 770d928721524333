/- HomeDeeds in the reference. No condition. -/
import Derived.Test.YtampglcgipefnaaGreatRb
import Derived.Test.YtampglcgipefnaaGreatRd
import Derived.Test.YtampglcgipefnaaGreatDh
namespace Go.Proofs.YtampglcgipefnaaGreat
open Go
attribute [local irreducible] awp awpL awpQL awpQ awpM pWalk Qt AC thenQ blockQ loopQ OpTo
set_option linter.unusedVariables false
set_option linter.unusedSimpArgs false
set_option maxHeartbeats 2000000
attribute [local irreducible] HC

attribute [local semireducible] awp in
/-- A block of one's own is forgotten. -/
theorem awp_forget {cx : Cx} {c : Code} {s : Slots} {h : Heap} {Q : Exit → Slots → Heap → Prop} (id : Nat) (hn : awp cx c (mapS (SV.kill [id]) s) (keepH (SV.kill [id]) [id] h) Q) : awp cx c s h Q := fun a w hr => by
  refine hn a w ?_
  obtain ⟨σ, hr⟩ := hr
  have := hr.upd (σ' := σ) (w' := w) [id] [] (SV.kill [id]) (by simp) (by simp) (fun _ _ => rfl) rfl rfl rfl (Nat.le_refl _) (fun _ _ _ => rfl) (by simp) (by simp) (by simp) (by simp)
    (fun hok v sv hv => RepSV.kill (fun b h1 h2 => hok b h1 h2) (fun _ _ => rfl) (simO_keep (N := []) (by simp)) hv) (by simp)
  refine ⟨σ, ?_⟩
  have e : lk (mapS (SV.kill [id]) s) = fun t => SV.kill [id] (lk s t) := funext fun t => lk_mapS rfl s t
  rw [e]
  exact this
theorem spec_l08RunH {s st : Int} {nx : List (List Int)} {lp : List Int} {ds : List (Int × Int)} (hv : litOk s nx lp = true) (hst : 0 ≤ st ∧ st < s) (hd : ∀ p ∈ ds, ddOk p) (h3 : ds.length ≤ 400) :
    HC Tryz.prog 42 [.d (.ptr (ltD s nx lp)), .d (.int .i64 st), .d (deedsD ds)] [] (.tup [.agg (lnS (runF s nx lp (ln0 s st) ds) ++ [.own 30000]), .d (ints (codesF s nx lp (ln0 s st) ds))]) [(30000, wrC (runF s nx lp (ln0 s st) ds).wire)] := by
  have v := lv_of hv
  have hs := v.s1
  have e1 := spec_l08Begin (s := s) (st := st) (nx := nx) (lp := lp) (by omega)
  have hle : (ds.map deedD).length = ds.length := by simp
  unfold deedsD ltD lnS at *
  refine hc_intro tabIs _ Tryz.func42 rfl rfl Tryz.ntmps42 rfl rfl rfl ?_ fun w0 ok0 XM XA anc => ?_
  · exact likeIn_nil
  repeat (first | refine v_w (t := 14) ?_ | refine zc ?_ | refine u_w (t := 14) ?_ | ((first | apply c_l | apply c_q | apply c_lr | apply c_qr); (iterate 2 exact rfl); (focus (first | exact e1)); (iterate 2 exact rfl)) | (apply v_c; (iterate 4 exact rfl); (focus (first | exact e1)); (iterate 2 exact rfl)) | refine zv ?_)
  refine awp_nilCell 8 11 99 90 4 rfl rfl rfl rfl rfl ?_
  refine awp_permTo [(14, .arr 2 1 []), (8, lnB (.own 99) (ln0 s st)), (99, wrC []), (6, .box [.d (.int .i64 0), .d (.int .i64 0), .d (.int .i64 0), .d (.int .i64 0), .d .nils, .d (.int .i64 0), .d .nils, .d (.int .i64 0), .d .nils, .d (.int .i64 0), .d .nils, .d .nils])] rfl ?_
  refine awp_loop (fun k : Nat => k ≤ ds.length) (fun k => [(0, .d (.ptr (.agg [.int .i64 s, rows nx, ints lp]))), (2, .d (.lst (ds.map deedD))), (6, .ref 6 0), (8, .ref 8 0), (9, .own 14), (10, .d (.int .i64 k))])
    (fun k => [(14, .arr 2 1 ((codesF s nx lp (ln0 s st) (ds.take k)).map (.int .i64))), (8, lnB (.own 99) (runF s nx lp (ln0 s st) (ds.take k))), (99, wrC (runF s nx lp (ln0 s st) (ds.take k)).wire), (6, .box [.d (.int .i64 0), .d (.int .i64 0), .d (.int .i64 0), .d (.int .i64 0), .d .nils, .d (.int .i64 0), .d .nils, .d (.int .i64 0), .d .nils, .d (.int .i64 0), .d .nils, .d .nils])]) (fun k => ds.length - k) 0 (by omega) ?_ rfl ?_
  · exact zs
  · intro k hk
    have hcc := codesF_len (s := s) (nx := nx) (lp := lp) (ds.take k) (ln0 s st)
    have hcl2 : (codesF s nx lp (ln0 s st) (ds.take k)).length = k := by rw [hcc, List.length_take]; omega
    by_cases hlt : k < ds.length
    · have hx := el_deed hlt
      have hln := runF_ok hv (ds.take k) (ln0_ok (nx := nx) hst) fun p hp => hd p (List.mem_of_mem_take hp)
      have c1 := spec_l08Do hv hln (by rw [List.length_take]; omega) (c := ds[k].1) (a := ds[k].2) (hd _ (List.getElem_mem hlt))
      have t1 := runF_take (s := s) (nx := nx) (lp := lp) (n := ln0 s st) hlt
      have t2 := codesF_take (s := s) (nx := nx) (lp := lp) (n := ln0 s st) hlt
      generalize codesF s nx lp (ln0 s st) (ds.take k) = cs at *
      generalize runF s nx lp (ln0 s st) (ds.take k) = n at *
      generalize doF s nx lp n ds[k].1 ds[k].2 = r at *
      generalize ds[k] = dk at *
      have t3 : (cs ++ [r.2]).map (D.int .i64) = cs.map (.int .i64) ++ [.int .i64 r.2] := by simp
      unfold deedD ltD at c1
      repeat (first | refine zc ?_ | refine zv ?_)
      refine hcl [(8, 10000), (99, 20000)] [(10000, 8), (20000, 99)] c1 ?_
      repeat (first | refine zc ?_ | refine zv ?_)
      refine loop_n (k + 1) (by omega) ?_ ?_ (by omega)
      · exact zs
      · rw [t1, t2, t3]; rfl
    · have : k = ds.length := by omega
      subst this
      repeat (first | refine zc ?_ | refine zv ?_)
      refine awp_freeze 14 rfl rfl ?_
      rw [List.take_length]
      (refine awp_ret ?_; (repeat (first | refine then_r ?_ | refine block_r ?_ | refine loop_r ?_)); refine u_rH [(99, 30000)] ?_ ?_)
      · rfl
      · rfl


theorem plan_doW {s c a : Int} {nx : List (List Int)} {lp : List Int} {k : Nat} {n m : Ln} {pB : Bool} {pS : List (Int × Int)} (hv : litOk s nx lp = true) (h : LnOk s nx k n) (hk : k ≤ 1000) (hd : ddOk (c, a)) (hc : c = 1 ∨ c = 2 ∨ c = 3 ∨ c = 4 ∨ c = 6 ∨ c = 8) (hl : pS.length ≤ 100000) (e : doF s nx lp n c a = (m, 0)) :
    HC Tryz.prog 63 [.ref 10000 0, .d (.int .i64 c), .d (.int .i64 a)] [(10000, plB (.own 20000) (.own 20001) (.ptr (ltD s nx lp)) pB n), (20000, wrC n.wire), (20001, dsC pS)] (.d (.tup []))
      [(10000, plB (.own 20000) (.own 20001) (.ptr (ltD s nx lp)) pB m), (20000, wrC m.wire), (20001, dsC (pS ++ [(c, a)]))] := by
  have := plan_do (pB := pB) (pS := pS) hv h hk hd hc hl
  rw [e] at this
  simpa using this
theorem plan_doX {s c a : Int} {nx : List (List Int)} {lp : List Int} {k : Nat} {n m : Ln} {pB : Bool} {pS : List (Int × Int)} (hv : litOk s nx lp = true) (h : LnOk s nx k n) (hk : k ≤ 1000) (hd : ddOk (c, a)) (hc : c = 1 ∨ c = 2 ∨ c = 3 ∨ c = 4 ∨ c = 6 ∨ c = 8) (hl : pS.length ≤ 100000) (e : doF s nx lp n c a = (m, 3)) :
    HC Tryz.prog 63 [.ref 10000 0, .d (.int .i64 c), .d (.int .i64 a)] [(10000, plB (.own 20000) (.own 20001) (.ptr (ltD s nx lp)) pB n), (20000, wrC n.wire), (20001, dsC pS)] (.d (.tup []))
      [(10000, plB (.own 20000) (.own 20001) (.ptr (ltD s nx lp)) true m), (20000, wrC m.wire), (20001, dsC (pS ++ [(c, a)]))] := by
  have := plan_do (pB := pB) (pS := pS) hv h hk hd hc hl
  rw [e] at this
  simpa using this
theorem dd0 {c : Int} (h : 1 ≤ c ∧ c ≤ 9) : ddOk (c, 0) := ⟨h.1, h.2, Int.le_refl _, by show (0 : Int) ≤ 999; decide⟩
theorem dd2 {c a : Int} (h : 1 ≤ c ∧ c ≤ 9) (h2 : 0 ≤ a ∧ a ≤ 999) : ddOk (c, a) := ⟨h.1, h.2, h2.1, h2.2⟩
theorem plan_hearW {s : Int} {nx : List (List Int)} {lp : List Int} {k : Nat} {n : Ln} {pB : Bool} {pS : List (Int × Int)} (hv : litOk s nx lp = true) (h : LnOk s nx k n) (hk : k ≤ 900) (hw : n.wire = []) (hl : pS.length ≤ 90000) :
    HC Tryz.prog 64 [.ref 10000 0] [(10000, plB (.own 20000) (.own 20001) (.ptr (ltD s nx lp)) pB n), (20000, wrC n.wire), (20001, dsC pS)] (.d (.tup []))
      [(10000, plB (.own 20000) (.own 20001) (.ptr (ltD s nx lp)) pB (hearF s nx lp n)), (20000, wrC (hearF s nx lp n).wire), (20001, dsC (pS ++ hearL))] := by
  have e1 := hear_do1 (s := s) (nx := nx) (lp := lp) hw
  have e2 := hear_do2 (s := s) (nx := nx) (lp := lp) (n := n)
  have e3 := hear_do3 (s := s) (nx := nx) (lp := lp) (n := n)
  have k1 := doF_ok hv h (dd0 (c := 3) (by decide))
  rw [e1] at k1
  have k2 := doF_ok hv k1 (dd0 (c := 4) (by decide))
  rw [e2] at k2
  have c1 := plan_doW (pB := pB) (pS := pS) hv h (by omega) (dd0 (c := 3) (by decide)) (by decide) (by omega) e1
  have c2 := plan_doW (pB := pB) (pS := pS ++ [(3, 0)]) hv k1 (by omega) (dd0 (c := 4) (by decide)) (by decide) (by simp; omega) e2
  have c3 := plan_doW (pB := pB) (pS := pS ++ [(3, 0)] ++ [(4, 0)]) hv k2 (by omega) (dd0 (c := 8) (by decide)) (by decide) (by simp; omega) e3
  rw [show pS ++ [(3, 0)] ++ [(4, 0)] ++ [(8, 0)] = pS ++ hearL by simp [hearL]] at c3
  generalize hear1 lp n = n1 at *
  generalize hear2 s nx lp n = n2 at *
  generalize hearF s nx lp n = n3 at *
  generalize pS ++ [(3, 0)] ++ [(4, 0)] = p2 at *
  generalize pS ++ [(3, 0)] = p1 at *
  generalize pS ++ hearL = p3 at *
  unfold plB wrC dsC ltD at *
  refine hc_intro tabIs _ Tryz.func64 rfl rfl Tryz.ntmps64 rfl rfl rfl ?_ fun w0 ok0 XM XA anc => ?_
  · exact likeIn_cons rfl rfl fun p hp ha => by simp at hp; rcases hp with rfl | rfl <;> cases ha
  repeat (first | refine zc ?_ | refine zv ?_)
  refine hcl [(10000, 10000), (20000, 20000), (20001, 20001)] [(10000, 10000), (20000, 20000), (20001, 20001)] c1 ?_
  repeat (first | refine zc ?_ | refine zv ?_)
  refine hcl [(10000, 10000), (20000, 20000), (20001, 20001)] [(10000, 10000), (20000, 20000), (20001, 20001)] c2 ?_
  repeat (first | refine zc ?_ | refine zv ?_)
  refine hcl [(10000, 10000), (20000, 20000), (20001, 20001)] [(10000, 10000), (20000, 20000), (20001, 20001)] c3 ?_
  repeat (first | refine zc ?_ | refine zv ?_)
  (refine u_eH [(10000, 10000), (20000, 20000), (20001, 20001)] ?_ ?_)
  · rfl
  · rfl

/-! ### The outcome -/
def hmP (s : Int) (nx : List (List Int)) (lp : List Int) (n : Ln) : Dsk := readF s nx lp n.d (rpF lp n)
def hmK (s : Int) (nx : List (List Int)) (lp : List Int) (n : Ln) : Nat := ((hmP s nx lp n).ord.length - n.tk).toNat
/-- The state behind the posts; what is believed then. -/
def hmQ (s : Int) (nx : List (List Int)) (lp : List Int) (n : Ln) : Int := stP nx n.st (hmP s nx lp n).ord n.tk (hmK s nx lp n)
def hmB (s : Int) (nx : List (List Int)) (lp : List Int) (n : Ln) : List Int := belH nx lp (hmP s nx lp n).ord (hmP s nx lp n).bel n.tk (hmQ s nx lp n)
def hmL (s : Int) (nx : List (List Int)) (lp : List Int) (n : Ln) : List (Int × Int) := List.replicate n.wire.length (6, 0) ++ hearL ++ pstL n.tk (hmK s nx lp n) ++ hearL
noncomputable def hmR (s : Int) (nx : List (List Int)) (lp : List Int) (n : Ln) : List (Int × Int) × Bool × Nat × Int × List Int :=
  rnds s nx lp (dep s nx lp (bitsL 0 (hmB s nx lp n))).toNat (bitsL 0 (hmB s nx lp n)) (hmQ s nx lp n) (hmP s nx lp n).ord (hmL s nx lp n)
noncomputable def hmD (s st : Int) (nx : List (List Int)) (lp : List Int) (ds : List (Int × Int)) : List (Int × Int) × Int :=
  if askC s st nx lp ds = 0 then
    if dep s nx lp (bitsL 0 (hmB s nx lp (runF s nx lp (ln0 s st) ds))) < 0 then ([], 6)
    else if (hmR s nx lp (runF s nx lp (ln0 s st) ds)).2.1 = true ∨ 400 < ds.length + (hmR s nx lp (runF s nx lp (ln0 s st) ds)).1.length then ([], 3)
    else ((hmR s nx lp (runF s nx lp (ln0 s st) ds)).1, 0)
  else ([], askC s st nx lp ds)
theorem LnOk.cut {s : Int} {nx : List (List Int)} {k : Nat} {n : Ln} (h : LnOk s nx k n) {w : List Pk} (hw : ∀ p ∈ w, p ∈ n.wire) (hl : w.length ≤ 10) : LnOk s nx k { n with wire := w } :=
  ⟨h.st, h.life, h.tk, h.d, h.sv, hl, fun p hp => h.wire p (hw p hp)⟩
theorem lnP_ok {s st lf tk su : Int} {nx : List (List Int)} {ord bel : List Int} (hd : DskOk s nx ⟨lf, ord, su, bel⟩) (hst : 0 ≤ st ∧ st < s) (ht : 0 ≤ tk ∧ tk ≤ 60) : LnOk s nx 60 (lnP st lf ord tk su bel) :=
  ⟨hst, hd.life, by show 0 ≤ tk ∧ tk ≤ ((60 : Nat) : Int); omega, hd, hd, by simp [lnP], fun p hp => by simp [lnP] at hp⟩
theorem lnP1_ok {s st lf tk su : Int} {nx : List (List Int)} {ord bel : List Int} (hd : DskOk s nx ⟨lf, ord, su, bel⟩) (hst : 0 ≤ st ∧ st < s) (ht : 0 ≤ tk ∧ tk < ord.length) : LnOk s nx 60 (lnP1 st lf ord tk su bel) := by
  have hl : ord.length ≤ 60 := hd.len
  refine ⟨hst, hd.life, by show 0 ≤ tk ∧ tk ≤ ((60 : Nat) : Int); omega, hd, hd, by simp [lnP1], fun p hp => ?_⟩
  simp [lnP1] at hp
  subst hp
  refine ⟨hd.life, by show 0 ≤ tk ∧ tk ≤ ((60 : Nat) : Int) + 60; omega, (fun h => by cases h), fun _ => ?_⟩
  have hlt : tk.toNat < ord.length := by omega
  have : ord.getD tk.toNat 0 ∈ ord := by rw [List.getD_eq_getElem?_getD, List.getElem?_eq_getElem hlt]; exact List.getElem_mem hlt
  exact hd.ord _ this
/-- What holds of the parts. -/
structure HmF (s : Int) (nx : List (List Int)) (lp : List Int) (n : Ln) : Prop where
  d : hmP s nx lp n = ⟨n.life, (hmP s nx lp n).ord, n.tk, (hmP s nx lp n).bel⟩
  ok : DskOk s nx (hmP s nx lp n)
  st : 0 ≤ n.st ∧ n.st < s
  t0 : 0 ≤ n.tk
  t1 : n.tk + hmK s nx lp n = (hmP s nx lp n).ord.length
  q : 0 ≤ hmQ s nx lp n ∧ hmQ s nx lp n < s
  b1 : ∀ q ∈ hmB s nx lp n, 0 ≤ q ∧ q < s
  b2 : (hmB s nx lp n).Pairwise (· < ·)
  f : bitsL 0 (hmB s nx lp n) < 2 ^ s.toNat
  b3 : setN (bitsL 0 (hmB s nx lp n)) = hmB s nx lp n
theorem hmF {s : Int} {nx : List (List Int)} {lp : List Int} {k : Nat} {n : Ln} {hs : List Int} (hv : litOk s nx lp = true) (h : LnOk s nx k n) (hi : LnInv s nx lp n hs) : HmF s nx lp n := by
  have v := lv_of hv
  have hs1 := v.s1
  obtain ⟨ord, bel, hr, h0, hle⟩ := hear_read hi
  have hr : hmP s nx lp n = ⟨n.life, ord, n.tk, bel⟩ := hr
  have hp : PkOk s nx k (rpF lp n) := ⟨h.life, by have := h.tk; show 0 ≤ n.tk ∧ n.tk ≤ (k : Int) + 60; omega, fun _ => lamp_range hv h.st, fun e => by cases e⟩
  have hok : DskOk s nx (hmP s nx lp n) := readF_ok v h.d hp
  have hK : n.tk + hmK s nx lp n = (hmP s nx lp n).ord.length := by
    unfold hmK
    rw [hr]
    show n.tk + (((ord.length : Int) - n.tk).toNat : Nat) = (ord.length : Nat)
    omega
  have hq : 0 ≤ hmQ s nx lp n ∧ hmQ s nx lp n < s := stP_range v.nx h.st hok.ord h0 _ (by omega)
  have b1 : ∀ q ∈ hmB s nx lp n, 0 ≤ q ∧ q < s := fun q hq => by
    obtain ⟨r, hr1, rfl⟩ := ((imgL_spec nx _ _).2 q).1 (List.mem_filter.1 hq).1
    exact runS_range v.nx _ (hok.bel r hr1) fun l hl => hok.ord l (mem_seg hl)
  have b2 : (hmB s nx lp n).Pairwise (· < ·) := List.Pairwise.filter _ (imgL_spec nx _ _).1
  exact ⟨by rw [hr], hok, h.st, h0, hK, hq, b1, b2, bits_lt _ _ (Nat.two_pow_pos _) (fun q hq => by have := b1 q hq; omega), setN_bits (fun q hq => by have := b1 q hq; omega) b2⟩
end Go.Proofs.YtampglcgipefnaaGreat
