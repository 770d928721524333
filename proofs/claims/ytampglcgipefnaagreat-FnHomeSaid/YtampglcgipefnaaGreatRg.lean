/- HomeDeeds in the program: its closure. No condition. -/
import Derived.Test.YtampglcgipefnaaGreatRe
import Derived.Test.YtampglcgipefnaaGreatOj
import Derived.Test.YtampglcgipefnaaGreatFwBs
import Derived.Test.YtampglcgipefnaaGreatDh
namespace Go.Proofs.YtampglcgipefnaaGreat
open Go
attribute [local irreducible] awp awpL awpQL awpQ awpM pWalk Qt AC thenQ blockQ loopQ OpTo
set_option linter.unusedVariables false
set_option linter.unusedSimpArgs false
set_option maxHeartbeats 2000000
attribute [local irreducible] HC

/-- The closure: a deed is done as long as none has failed. -/
def clF (s : Int) (nx : List (List Int)) (lp : List Int) : Ln × Bool → List (Int × Int) → Ln × Bool
  | r, [] => r
  | r, p :: q => clF s nx lp (if r.2 then r else ((doF s nx lp r.1 p.1 p.2).1, !decide ((doF s nx lp r.1 p.1 p.2).2 = 0))) q
section
variable {s : Int} {nx : List (List Int)} {lp : List Int}
theorem clF_append : ∀ (p q : List (Int × Int)) (r : Ln × Bool), clF s nx lp r (p ++ q) = clF s nx lp (clF s nx lp r p) q
  | [], _, _ => rfl
  | x :: p, q, r => clF_append p q _
theorem clF_bad : ∀ (q : List (Int × Int)) (n : Ln), clF s nx lp (n, true) q = (n, true)
  | [], _ => rfl
  | x :: q, n => clF_bad q n
theorem clF_went : ∀ (q : List (Int × Int)) {n m : Ln}, Went s nx lp n q m → clF s nx lp (n, false) q = (m, false)
  | [], n, m, h => by rw [show n = m from h.1]; rfl
  | x :: q, n, m, h => by
    have h0 : (doF s nx lp n x.1 x.2).2 = 0 := h.2 _ (List.mem_cons_self ..)
    show clF s nx lp ((doF s nx lp n x.1 x.2).1, !decide ((doF s nx lp n x.1 x.2).2 = 0)) q = _
    rw [decide_eq_true h0]
    exact clF_went q ⟨h.1, fun c hc => h.2 c (List.mem_cons_of_mem _ hc)⟩
theorem clF_take {L : List (Int × Int)} {k : Nat} {r : Ln × Bool} (h : k < L.length) : clF s nx lp r (L.take (k + 1)) = if (clF s nx lp r (L.take k)).2 then clF s nx lp r (L.take k) else ((doF s nx lp (clF s nx lp r (L.take k)).1 L[k].1 L[k].2).1, !decide ((doF s nx lp (clF s nx lp r (L.take k)).1 L[k].1 L[k].2).2 = 0)) := by
  rw [List.take_succ_eq_append_getElem h, clF_append]
  rfl
theorem clF_ok (hv : litOk s nx lp = true) : ∀ (q : List (Int × Int)) {k : Nat} {r : Ln × Bool}, LnOk s nx k r.1 → (∀ p ∈ q, ddOk p) → LnOk s nx (k + q.length) (clF s nx lp r q).1
  | [], _, _, h, _ => h
  | p :: q, k, r, h, hd => by
    have h2 : LnOk s nx (k + 1) (if r.2 then r else ((doF s nx lp r.1 p.1 p.2).1, !decide ((doF s nx lp r.1 p.1 p.2).2 = 0))).1 := by
      split
      · exact h.mono
      · exact doF_ok hv h (hd p (List.mem_cons_self ..))
    have := clF_ok hv q h2 fun x hx => hd x (List.mem_cons_of_mem _ hx)
    rw [List.length_cons, show k + (q.length + 1) = k + 1 + q.length by omega]
    exact this
end

theorem impl_home1 {s : Int} {nx : List (List Int)} {lp : List Int} {k : Nat} {n : Ln} {b : Bool} {L out : List (Int × Int)} (hv : litOk s nx lp = true) (h : LnOk s nx k n) (hk : k + L.length ≤ 1000) (hd : ∀ p ∈ L, ddOk p) (hl : out.length + L.length ≤ 100000) :
    HC Tryz.prog 68 [.d (deedsD L), .ref 10000 0, .ref 10001 0, .ref 10002 0] [(10000, .box [.d (.bool b)]), (10001, .box [.ref 10003 0]), (10002, .box [.own 20001]), (10003, wkB (.own 20000) n s nx lp), (20000, wrC n.wire), (20001, dsC out)] (.d (.tup []))
      [(10000, .box [.d (.bool (clF s nx lp (n, b) L).2)]), (10001, .box [.ref 10003 0]), (10002, .box [.own 20001]), (10003, wkB (.own 20000) (clF s nx lp (n, b) L).1 s nx lp), (20000, wrC (clF s nx lp (n, b) L).1.wire), (20001, dsC (out ++ L))] := by
  have hle : (L.map deedD).length = L.length := by simp
  unfold deedsD
  refine hc_intro tabIs _ Tryz.func68 rfl rfl Tryz.ntmps68 rfl rfl rfl ?_ fun w0 ok0 XM XA anc => ?_
  · exact likeIn_cons rfl rfl (likeIn_cons rfl rfl (likeIn_cons rfl rfl (likeIn_cons rfl rfl fun p hp ha => by simp at hp; rcases hp with rfl | rfl <;> cases ha)))
  repeat (first | refine zc ?_ | refine zv ?_)
  refine awp_loop (fun j : Nat => j ≤ L.length) (fun j => [(1, .ref 10000 0), (2, .ref 10001 0), (3, .ref 10002 0), (7, .d (.lst (L.map deedD))), (8, .d (.int .i64 (L.map deedD).length)), (9, .d (.int .i64 j))])
    (fun j => [(10000, .box [.d (.bool (clF s nx lp (n, b) (L.take j)).2)]), (10001, .box [.ref 10003 0]), (10002, .box [.own 20001]), (10003, wkB (.own 20000) (clF s nx lp (n, b) (L.take j)).1 s nx lp), (20000, wrC (clF s nx lp (n, b) (L.take j)).1.wire), (20001, dsC (out ++ L.take j))]) (fun j => L.length - j) 0 (by omega) ?_ ?_ ?_
  · exact zs
  · simp [clF]
  · intro j hj
    by_cases hlt : j < L.length
    · have hx := el_deed hlt
      have t1 := clF_take (s := s) (nx := nx) (lp := lp) (r := (n, b)) hlt
      have t2 := List.take_succ_eq_append_getElem hlt
      have k1 := clF_ok hv (L.take j) (r := (n, b)) h fun p hp => hd p (List.mem_of_mem_take hp)
      have hdj : ddOk (L[j].1, L[j].2) := hd _ (List.getElem_mem hlt)
      have htl : (L.take j).length = j := by rw [List.length_take]; omega
      have hol : ((out ++ L.take j).map deedD).length ≤ 100000 := by rw [List.length_map, List.length_append, htl]; omega
      have hol2 : (out ++ L.take j).length ≤ 100000 := by rw [List.length_append, htl]; omega
      have c1 := impl_doH hv k1 (by omega) hdj
      generalize clF s nx lp (n, b) (L.take j) = r at *
      generalize L[j] = d at *
      have t3 : dsC (out ++ L.take (j + 1)) = .arr 74 2 ((out ++ L.take j).map deedD ++ [deedD d]) := by rw [t2]; simp [dsC]
      generalize out ++ L.take j = oj at *
      obtain ⟨m, b'⟩ := r
      dsimp only at *
      cases b' with
      | true =>
        rw [if_pos rfl] at t1
        unfold wkB wrC dsC deedD at *
        repeat (first | refine zcr ?_ | refine zv ?_ | refine zg ?_)
        refine awp_region ?_
        repeat (first | refine zcr ?_ | refine zv ?_ | refine zg ?_)
        refine awp_region ?_
        repeat (first | refine zcr ?_ | refine zv ?_ | refine zg ?_)
        refine awp_region ?_
        repeat (first | refine zcr ?_ | refine zv ?_ | refine zg ?_)
        refine awp_region ?_
        repeat (first | refine zcr ?_ | refine zv ?_ | refine zg ?_)
        refine awp_freezeB 6 rfl rfl rfl ?_
        refine awp_perm _ rfl ?_
        repeat (first | refine zc ?_ | refine zv ?_)
        refine loop_n (j + 1) (by omega) ?_ ?_ (by omega)
        · exact zs
        · simp only [t1, t3]
          (as_aux_lemma => kernel_rfl)
      | false =>
        rw [if_neg (by decide)] at t1
        generalize doF s nx lp m d.1 d.2 = r at *
        unfold wkB wrC dsC deedD at *
        repeat (first | refine zcr ?_ | refine zv ?_ | refine zg ?_)
        refine awp_region ?_
        repeat (first | refine zcr ?_ | refine zv ?_ | refine zg ?_)
        refine awp_region ?_
        repeat (first | refine zcr ?_ | refine zv ?_ | refine zg ?_)
        refine awp_region ?_
        repeat (first | refine zcr ?_ | refine zv ?_ | refine zg ?_)
        refine hclG [(10003, 10000), (20000, 20000)] [(10000, 10003), (20000, 20000)] c1 ?_
        repeat (first | refine zcr ?_ | refine zv ?_ | refine zg ?_)
        refine awp_region ?_
        repeat (first | refine zcr ?_ | refine zv ?_ | refine zg ?_)
        refine awp_freezeB 6 rfl rfl rfl ?_
        refine awp_perm _ rfl ?_
        repeat (first | refine zc ?_ | refine zv ?_)
        refine loop_n (j + 1) (by omega) ?_ ?_ (by omega)
        · exact zs
        · simp only [t1, t3]
          (as_aux_lemma => kernel_rfl)
    · have hjL : j = L.length := by omega
      subst hjL
      rw [List.take_length]
      unfold wkB wrC dsC deedD
      repeat (first | refine zc ?_ | refine zv ?_)
      (refine u_eH [(10000, 10000), (10001, 10001), (10002, 10002), (10003, 10003), (20000, 20000), (20001, 20001)] ?_ ?_)
      · rfl
      · rfl
theorem impl_homeW {s : Int} {nx : List (List Int)} {lp : List Int} {k : Nat} {n m : Ln} {L out : List (Int × Int)} (hv : litOk s nx lp = true) (h : LnOk s nx k n) (hk : k + L.length ≤ 1000) (hd : ∀ p ∈ L, ddOk p) (hl : out.length + L.length ≤ 100000) (hw : Went s nx lp n L m) :
    HC Tryz.prog 68 [.d (deedsD L), .ref 10000 0, .ref 10001 0, .ref 10002 0] [(10000, .box [.d (.bool false)]), (10001, .box [.ref 10003 0]), (10002, .box [.own 20001]), (10003, wkB (.own 20000) n s nx lp), (20000, wrC n.wire), (20001, dsC out)] (.d (.tup []))
      [(10000, .box [.d (.bool false)]), (10001, .box [.ref 10003 0]), (10002, .box [.own 20001]), (10003, wkB (.own 20000) m s nx lp), (20000, wrC m.wire), (20001, dsC (out ++ L))] := by
  have := impl_home1 (b := false) (out := out) hv h hk hd hl
  rw [clF_went L hw] at this
  exact this
theorem impl_homeT {s : Int} {nx : List (List Int)} {lp : List Int} {k : Nat} {n : Ln} {L out : List (Int × Int)} (hv : litOk s nx lp = true) (h : LnOk s nx k n) (hk : k + L.length ≤ 1000) (hd : ∀ p ∈ L, ddOk p) (hl : out.length + L.length ≤ 100000) :
    HC Tryz.prog 68 [.d (deedsD L), .ref 10000 0, .ref 10001 0, .ref 10002 0] [(10000, .box [.d (.bool true)]), (10001, .box [.ref 10003 0]), (10002, .box [.own 20001]), (10003, wkB (.own 20000) n s nx lp), (20000, wrC n.wire), (20001, dsC out)] (.d (.tup []))
      [(10000, .box [.d (.bool true)]), (10001, .box [.ref 10003 0]), (10002, .box [.own 20001]), (10003, wkB (.own 20000) n s nx lp), (20000, wrC n.wire), (20001, dsC (out ++ L))] := by
  have := impl_home1 (b := true) (out := out) hv h hk hd hl
  rw [clF_bad] at this
  exact this
/-- The first deed fails. -/
theorem impl_homeX {s : Int} {nx : List (List Int)} {lp : List Int} {k : Nat} {n : Ln} {c a : Int} {L out : List (Int × Int)} (hv : litOk s nx lp = true) (h : LnOk s nx k n) (hk : k + (L.length + 1) ≤ 1000) (hd : ∀ p ∈ (c, a) :: L, ddOk p) (hl : out.length + (L.length + 1) ≤ 100000) (e : doF s nx lp n c a = (n, 3)) :
    HC Tryz.prog 68 [.d (deedsD ((c, a) :: L)), .ref 10000 0, .ref 10001 0, .ref 10002 0] [(10000, .box [.d (.bool false)]), (10001, .box [.ref 10003 0]), (10002, .box [.own 20001]), (10003, wkB (.own 20000) n s nx lp), (20000, wrC n.wire), (20001, dsC out)] (.d (.tup []))
      [(10000, .box [.d (.bool true)]), (10001, .box [.ref 10003 0]), (10002, .box [.own 20001]), (10003, wkB (.own 20000) n s nx lp), (20000, wrC n.wire), (20001, dsC (out ++ (c, a) :: L))] := by
  have := impl_home1 (b := false) (out := out) (L := (c, a) :: L) hv h hk hd hl
  have e2 : clF s nx lp (n, false) ((c, a) :: L) = (n, true) := by
    show clF s nx lp ((doF s nx lp n c a).1, !decide ((doF s nx lp n c a).2 = 0)) L = _
    rw [e]
    exact clF_bad L n
  rw [e2] at this
  exact this
end Go.Proofs.YtampglcgipefnaaGreat

/-! HomeDeeds in the program: the walk. No condition. -/
namespace Go.Proofs.YtampglcgipefnaaGreat
open Go
attribute [local irreducible] awp awpL awpQL awpQ awpM pWalk Qt AC thenQ blockQ loopQ OpTo
set_option linter.unusedVariables false
set_option linter.unusedSimpArgs false
set_option maxHeartbeats 2000000
attribute [local irreducible] HC

theorem went_four {s : Int} {nx : List (List Int)} {lp : List Int} {q lf : Int} {ord : List Int} {bel : List Int} {x : Int} (h1 : x < nx.length) (h2 : ¬ ord.length = 60) :
    Went s nx lp (lnH q lf ord bel) [(1, x), (8, 0), (2, (ord.length : Int)), (4, 0)] (lnP (at2 nx x q) lf (ord ++ [x]) (ord ++ [x]).length ord.length bel) := by
  have a1 := Went.one (rnd_do1 (s := s) (lp := lp) (q := q) (lf := lf) (ord := ord) (bel := bel) h1 h2)
  have a2 := Went.one (rnd_do2 (s := s) (nx := nx) (lp := lp) (q := q) (lf := lf) (ord := ord) (bel := bel) (x := x))
  have a3 := Went.one (post_do1 (s := s) (nx := nx) (lp := lp) (st := q) (lf := lf) (ord := ord ++ [x]) (tk := ord.length) (su := ord.length) (bel := bel) (by simp; omega))
  have a4 := Went.one (rnd_do4 (s := s) (nx := nx) (lp := lp) (q := q) (lf := lf) (ord := ord) (bel := bel) (x := x))
  exact ((a1.append a2).append a3).append a4
theorem impl_HomeDeedsH {s st : Int} {nx : List (List Int)} {lp : List Int} {ds : List (Int × Int)} (h : RowsOk nx) (h2 : lp.length ≤ 9223372036854775807) (h3 : ds.length ≤ 1048576) :
    HC Tryz.prog 30 [.d (ltD s nx lp), .d (.int .i64 st), .d (deedsD ds)] [] (.tup [.own 30000, .d (.int .i64 (hmD s st nx lp ds).2)]) [(30000, dsC (hmD s st nx lp ds).1)] := by
  have e1 := impl_deedsCode (s := s) (st := st) (nx := nx) (lp := lp) (ds := ds) h h2 h3
  unfold hmD
  by_cases ha : askC s st nx lp ds = 0
  · rw [if_pos ha]
    obtain ⟨hv, hst, hd, hl⟩ := ask_ok ha
    have v := lv_of hv
    have hs := v.s1
    have hn1 := v.n1
    have c0 := impl_afterH hv hst hd hl
    have hln := runF_ok hv ds (ln0_ok (nx := nx) hst) hd
    obtain ⟨hs', hi⟩ := runF_inv hv ds (ln0_ok (nx := nx) hst) (lnInv0 hst) hd
    have F := hmF hv hln hi
    rw [ha] at e1
    generalize doneF (codesF s nx lp (ln0 s st) ds) = dn at *
    generalize runF s nx lp (ln0 s st) ds = n at *
    clear ha
    have hok := F.ok
    rw [F.d] at hok
    have t0 := F.t0
    have t1 := F.t1
    have q1 := F.q
    have b1 := F.b1
    have b2 := F.b2
    have b3 := F.b3
    have f1 := F.f
    have hH : hearF s nx lp { n with wire := [] } = lnP n.st n.life (hmP s nx lp n).ord n.tk n.tk (hmP s nx lp n).bel := by
      show (⟨n.st, n.life, n.tk, hmP s nx lp n, hmP s nx lp n, []⟩ : Ln) = _
      rw [F.d]
      rfl
    have hst1 := F.st
    clear F hi
    have hQ : hmQ s nx lp n = stP nx n.st (hmP s nx lp n).ord n.tk (hmK s nx lp n) := rfl
    have hB : hmB s nx lp n = belH nx lp (hmP s nx lp n).ord (hmP s nx lp n).bel n.tk (hmQ s nx lp n) := rfl
    have hLL : hmL s nx lp n = List.replicate n.wire.length (6, 0) ++ hearL ++ pstL n.tk (hmK s nx lp n) ++ hearL := rfl
    have hR : hmR s nx lp n = rnds s nx lp (dep s nx lp (bitsL 0 (hmB s nx lp n))).toNat (bitsL 0 (hmB s nx lp n)) (hmQ s nx lp n) (hmP s nx lp n).ord (hmL s nx lp n) := rfl
    generalize hmR s nx lp n = R at *
    generalize hmL s nx lp n = L4 at *
    generalize hmB s nx lp n = B at *
    generalize hmQ s nx lp n = Q at *
    generalize hmK s nx lp n = K at *
    generalize (hmP s nx lp n).ord = ord at *
    generalize (hmP s nx lp n).bel = bl at *
    have hol : ord.length ≤ 60 := hok.len
    have hwl : (n.wire.map pkD).length = n.wire.length := by simp
    have hw10 := hln.wl
    have hn1ok : LnOk s nx ds.length { n with wire := [] } := by simpa using hln.cut (w := []) (fun p hp => by cases hp) (by simp)
    have hh : ∀ p ∈ hearL, ddOk p := fun p hp => by
      simp [hearL] at hp
      rcases hp with rfl | rfl | rfl <;> exact dd0 (by decide)
    unfold ltD deedsD wrC wkB at *
    refine hc_intro tabIs _ Tryz.func30 rfl rfl Tryz.ntmps30 rfl rfl rfl ?_ fun w0 ok0 XM XA anc => ?_
    · exact likeIn_nil
    repeat (first | refine zcn ?_ | ((first | apply c_l | apply c_q | apply c_lr | apply c_qr); (iterate 2 exact rfl); (focus (first | exact e1)); (iterate 2 exact rfl)) | (apply v_c; (iterate 4 exact rfl); (focus (first | exact e1)); (iterate 2 exact rfl)) | refine zv ?_)
    refine hcl [] [(30000, 600), (30001, 99)] c0 ?_
    repeat (first | refine zcr ?_ | refine zv ?_)
    refine awp_region ?_
    repeat (first | refine v_w (t := 33) ?_ | refine zcr ?_ | refine u_w (t := 33) ?_ | refine zv ?_)
    refine awp_region ?_
    repeat (first | refine zcr ?_ | refine zv ?_)
    refine awp_region ?_
    repeat (first | refine zcr ?_ | refine zv ?_)
    refine awp_sub (s' := [(1, .d (.int .i64 st)), (2, .d (.lst (ds.map deedD))), (3, .d (.ptr (.agg [.int .i64 s, rows nx, ints lp]))), (9, .ref 9 0), (11, .ref 11 0), (12, .ref 12 0), (13, .fn 68 [.ref 12 0, .ref 9 0, .ref 11 0]), (14, .d (.lst [deedD (3, 0), deedD (4, 0), deedD (8, 0)]))]) (by exact zs) ?_
    refine awp_permTo [(9, .box [.ref 600 0]), (11, .box [.own 33]), (12, .box [.d (.bool false)]), (33, dsC ([])), (99, wrC (n.wire)), (600, wkB (.own 99) (n) s nx lp)] rfl ?_
    refine awp_region ?_
    repeat (first | refine zcr ?_ | refine zv ?_)
    refine awp_loop (fun i : Nat => i ≤ n.wire.length) (fun i => [(1, .d (.int .i64 st)), (2, .d (.lst (ds.map deedD))), (3, .d (.ptr (.agg [.int .i64 s, rows nx, ints lp]))), (9, .ref 9 0), (11, .ref 11 0), (12, .ref 12 0), (13, .fn 68 [.ref 12 0, .ref 9 0, .ref 11 0]), (14, .d (.lst [deedD (3, 0), deedD (4, 0), deedD (8, 0)])), (44, .d (.int .i64 (n.wire.map pkD).length)), (45, .d (.int .i64 i))]) (fun i => [(9, .box [.ref 600 0]), (11, .box [.own 33]), (12, .box [.d (.bool false)]), (33, dsC (List.replicate i (6, 0))), (99, wrC (n.wire.drop i)), (600, wkB (.own 99) ({ n with wire := n.wire.drop i }) s nx lp)]) (fun i => n.wire.length - i) 0 (by omega) ?_ rfl ?_
    · exact zs
    · intro i hi
      have hdl : ((n.wire.drop i).map pkD).length = n.wire.length - i := by simp
      by_cases hlt : i < n.wire.length
      ·
        have e := List.drop_eq_getElem_cons hlt
        have ed := do_drop (s := s) (nx := nx) (lp := lp) (n := { n with wire := n.wire.drop i }) e
        have c1 := impl_homeW (out := List.replicate i (6, 0)) hv (hln.cut (w := n.wire.drop i) (fun p hp => List.mem_of_mem_drop hp) (by rw [List.length_drop]; omega)) (by simp; omega) (fun p hp => by simp at hp; subst hp; exact dd0 (by decide)) (by simp; omega) (Went.one ed)
        rw [← List.replicate_succ'] at c1
        clear e ed
        unfold wkB wrC dsC at *
        repeat (first | refine zc ?_ | refine zv ?_)
        refine hcl [(12, 10000), (9, 10001), (11, 10002), (600, 10003), (99, 20000), (33, 20001)] [(10000, 12), (10001, 9), (10002, 11), (10003, 600), (20000, 99), (20001, 33)] c1 ?_
        refine awpL_perm _ rfl ?_
        repeat (first | refine zc ?_ | refine zv ?_)
        refine loop_n (i + 1) (by omega) ?_ ?_ (by omega)
        · exact zs
        · (as_aux_lemma => kernel_rfl)

      · have hi2 : i = n.wire.length := by omega
        subst hi2
        rw [List.drop_length]
        have c1 := impl_homeW (out := List.replicate n.wire.length (6, 0)) hv hn1ok (by simp [hearL]; omega) hh (by simp [hearL]; omega) (went_hear (s := s) (nx := nx) (lp := lp) (n := { n with wire := [] }) rfl)
        rw [hH] at c1
        generalize hL1 : List.replicate n.wire.length ((6 : Int), (0 : Int)) ++ hearL = L1 at *
        have hl1 : L1.length ≤ 13 := by rw [← hL1]; simp [hearL]; omega
        unfold wkB wrC dsC at *
        repeat (first | refine zcr ?_ | refine zv ?_)
        refine awp_region ?_
        repeat (first | refine zcr ?_ | refine zv ?_)
        refine awp_region ?_
        repeat (first | refine zc ?_ | refine zv ?_)
        refine hcl [(12, 10000), (9, 10001), (11, 10002), (600, 10003), (99, 20000), (33, 20001)] [(10000, 12), (10001, 9), (10002, 11), (10003, 600), (20000, 99), (20001, 33)] c1 ?_
        repeat (first | refine zcr ?_ | refine zv ?_)
        refine awp_region ?_
        repeat (first | refine zcr ?_ | refine zv ?_)
        refine awp_sub (s' := [(1, .d (.int .i64 st)), (2, .d (.lst (ds.map deedD))), (3, .d (.ptr (.agg [.int .i64 s, rows nx, ints lp]))), (9, .ref 9 0), (11, .ref 11 0), (12, .ref 12 0), (13, .fn 68 [.ref 12 0, .ref 9 0, .ref 11 0]), (14, .d (.lst [deedD (3, 0), deedD (4, 0), deedD (8, 0)])), (15, .d (.int .i64 n.tk))]) (by exact zs) ?_
        refine awp_permTo [(9, .box [.ref 600 0]), (11, .box [.own 33]), (12, .box [.d (.bool false)]), (33, dsC (L1)), (99, wrC ([])), (600, wkB (.own 99) (lnP n.st n.life ord n.tk n.tk bl) s nx lp)] rfl ?_
        refine awp_loop (fun j : Nat => j ≤ K) (fun j => [(1, .d (.int .i64 st)), (2, .d (.lst (ds.map deedD))), (3, .d (.ptr (.agg [.int .i64 s, rows nx, ints lp]))), (9, .ref 9 0), (11, .ref 11 0), (12, .ref 12 0), (13, .fn 68 [.ref 12 0, .ref 9 0, .ref 11 0]), (14, .d (.lst [deedD (3, 0), deedD (4, 0), deedD (8, 0)])), (15, .d (.int .i64 (n.tk + j)))]) (fun j => [(9, .box [.ref 600 0]), (11, .box [.own 33]), (12, .box [.d (.bool false)]), (33, dsC (L1 ++ pstL n.tk j)), (99, wrC ([])), (600, wkB (.own 99) (lnP (stP nx n.st ord n.tk j) n.life ord (n.tk + j) n.tk bl) s nx lp)]) (fun j => K - j) 0 (by omega) ?_ ?_ ?_
        · rw [show n.tk + ((0 : Nat) : Int) = n.tk by omega]
          exact zs
        · rw [show n.tk + ((0 : Nat) : Int) = n.tk by omega]
          simp [pstL, stP]
        · intro j hj
          have hom : (ord.map (D.int .i64)).length = ord.length := by simp
          have hsz := impl_size1 (ns := ord)
          have hstj := stP_range (st := n.st) (ord := ord) v.nx hst1 hok.ord t0 j (by omega)
          have hpl := pstL_len (tk := n.tk) j
          by_cases hlt : j < K
          ·
            have w1 := (Went.one (post_do1 (s := s) (nx := nx) (lp := lp) (st := stP nx n.st ord n.tk j) (lf := n.life) (ord := ord) (tk := n.tk + j) (su := n.tk) (bel := bl) (by omega))).append (Went.one post_do2)
            have d1 := impl_homeW (out := L1 ++ pstL n.tk j) hv (lnP_ok (tk := n.tk + j) hok hstj (by omega)) (by simp) (fun p hp => by simp at hp; rcases hp with rfl | rfl <;> first | exact dd0 (by decide) | exact dd2 (by decide) (by omega)) (by rw [List.length_append]; simp; omega) w1
            have e1 : L1 ++ pstL n.tk j ++ ([(2, n.tk + (j : Int))] ++ [(4, 0)]) = L1 ++ pstL n.tk (j + 1) := by rw [pstL_succ]; simp
            have e2 : n.tk + ((j + 1 : Nat) : Int) = n.tk + j + 1 := by omega
            rw [e1] at d1
            have e3 : stP nx n.st ord n.tk (j + 1) = at2 nx (ord.getD (n.tk + j).toNat 0) (stP nx n.st ord n.tk j) := rfl
            rw [← e3] at d1
            generalize stP nx n.st ord n.tk j = sj at *
            generalize hsj : stP nx n.st ord n.tk (j + 1) = sj' at *
            generalize L1 ++ pstL n.tk j = La at *
            generalize hLc : L1 ++ pstL n.tk (j + 1) = Lc at *
            clear e1 e3 w1
            unfold wkB wrC dsC lnP at *
            repeat (first | refine zc ?_ | ((first | apply c_l | apply c_q | apply c_lr | apply c_qr); (iterate 2 exact rfl); (focus (first | exact hsz)); (iterate 2 exact rfl)) | (apply v_c; (iterate 4 exact rfl); (focus (first | exact hsz)); (iterate 2 exact rfl)) | refine zv ?_)
            refine hcl [(12, 10000), (9, 10001), (11, 10002), (600, 10003), (99, 20000), (33, 20001)] [(10000, 12), (10001, 9), (10002, 11), (10003, 600), (20000, 99), (20001, 33)] d1 ?_
            refine awpL_perm _ rfl ?_
            repeat (first | refine zc ?_ | refine zv ?_)
            refine loop_n (j + 1) (by omega) ?_ ?_ (by omega)
            · rw [e2]
              exact zs
            · simp only [e2, hsj, hLc]
              (as_aux_lemma => kernel_rfl)

          · have hjK : j = K := by omega
            subst hjK
            have hPe : lnP (stP nx n.st ord n.tk j) n.life ord (n.tk + j) n.tk bl = lnP Q n.life ord ord.length n.tk bl := by rw [hQ, t1]
            rw [hPe]
            rw [hQ] at q1
            have c3 := impl_homeW (out := L1 ++ pstL n.tk j) hv (lnP_ok (st := Q) (tk := ord.length) hok (by rw [hQ]; exact hstj) (by omega)) (by simp [hearL]) hh (by rw [List.length_append]; simp [hearL]; omega) (went_hear rfl)
            rw [hear_P (by omega), ← hB, ← hLL] at c3
            have hdr := dep_range (s := s) (nx := nx) (lp := lp) (f := bitsL 0 B)
            have hpw := pow_le (m := s.toNat) (by omega)
            have hL4 : L4.length ≤ 136 := by rw [hLL]; simp only [List.length_append]; simp [hearL]; omega
            have hordok := hok.ord
            have hlife := hok.life
            rw [← hQ] at q1
            clear c1 hPe hpl hstj
            unfold wkB wrC dsC lnP lnH at *
            repeat (first | refine zcr ?_ | ((first | apply c_l | apply c_q | apply c_lr | apply c_qr); (iterate 2 exact rfl); (focus (first | exact hsz)); (iterate 2 exact rfl)) | (apply v_c; (iterate 4 exact rfl); (focus (first | exact hsz)); (iterate 2 exact rfl)) | refine zv ?_)
            refine awp_region ?_
            repeat (first | refine zcr ?_ | ((first | apply c_l | apply c_q | apply c_lr | apply c_qr); (iterate 2 exact rfl); (focus (first | exact hsz)); (iterate 2 exact rfl)) | (apply v_c; (iterate 4 exact rfl); (focus (first | exact hsz)); (iterate 2 exact rfl)) | refine zv ?_)
            refine awp_region ?_
            repeat (first | refine zc ?_ | refine zv ?_)
            refine hcl [(12, 10000), (9, 10001), (11, 10002), (600, 10003), (99, 20000), (33, 20001)] [(10000, 12), (10001, 9), (10002, 11), (10003, 600), (20000, 99), (20001, 33)] c3 ?_
            repeat (first | refine zcr ?_ | refine zv ?_)
            refine awp_sub (s' := [(1, .d (.int .i64 st)), (2, .d (.lst (ds.map deedD))), (3, .d (.ptr (.agg [.int .i64 s, rows nx, ints lp]))), (9, .ref 9 0), (11, .ref 11 0), (12, .ref 12 0), (13, .fn 68 [.ref 12 0, .ref 9 0, .ref 11 0]), (14, .d (.lst [deedD (3, 0), deedD (4, 0), deedD (8, 0)]))]) (by exact zs) ?_
            refine awp_permTo [(9, .box [.ref 600 0]), (11, .box [.own 33]), (12, .box [.d (.bool false)]), (33, dsC (L4)), (99, wrC ([])), (600, wkB (.own 99) (lnH Q n.life ord B) s nx lp)] rfl ?_
            generalize hf0 : bitsL 0 B = f0 at *
            subst b3
            clear hB
            generalize n.life = lf at *
            generalize n.tk = tk0 at *
            have hfl := impl_flockOf (l := setN f0) (fun q hq => by have := b1 q hq; omega) (by have := ris_le10 hs.2 b1 b2; omega)
            rw [hf0] at hfl
            have hf1024 : f0 < 1024 := by omega
            by_cases hdp : dep s nx lp f0 < 0
            ·
              rw [if_pos hdp]
              have had := impl_adaptive v f1
              rw [decide_eq_false (by omega : ¬ 0 ≤ dep s nx lp f0)] at had
              have hls := len_sm hf1024
              have hdz := dep_zero (s := s) (nx := nx) (lp := lp) (f := f0)
              have hbig : ¬ (setN f0).length ≤ 1 := fun h => by have := hdz.2 (hls.1 h); omega
              have hle : (List.map (D.int IntKind.i64) (setN f0)).length = (setN f0).length := by simp
              unfold wkB wrC dsC lnH
              refine awp_loop (fun _ : Unit => True) (fun _ => [(1, .d (.int .i64 st)), (2, .d (.lst (ds.map deedD))), (3, .d (.ptr (.agg [.int .i64 s, rows nx, ints lp]))), (9, .ref 9 0), (11, .ref 11 0), (12, .ref 12 0), (13, .fn 68 [.ref 12 0, .ref 9 0, .ref 11 0]), (14, .d (.lst [deedD (3, 0), deedD (4, 0), deedD (8, 0)]))]) (fun _ => [(9, .box [.ref 600 0]), (11, .box [.own 33]), (12, .box [.d (.bool false)]), (33, dsC (L4)), (99, wrC ([])), (600, wkB (.own 99) (lnH Q lf ord (setN f0)) s nx lp)]) (fun _ => 0) () trivial ?_ rfl ?_
              · exact zs
              · intro _ _
                unfold wkB wrC dsC lnH
                repeat (first | refine zc ?_ | ((first | apply c_l | apply c_q | apply c_lr | apply c_qr); (iterate 2 exact rfl); (focus (first | exact hfl | exact had)); (iterate 2 exact rfl)) | (apply v_c; (iterate 4 exact rfl); (focus (first | exact hfl | exact had)); (iterate 2 exact rfl)) | refine zv ?_ | refine zg ?_)
                refine awp_nilSlot 6 7777 74 2 rfl rfl rfl ?_
                (refine awp_ret ?_; (repeat (first | refine then_r ?_ | refine block_r ?_ | refine loop_r ?_)); refine u_rH [(7777, 30000)] ?_ ?_)
                · rfl
                · rfl

            · rw [if_neg hdp]
              refine awp_loop (fun p : (Nat × Int × List Int × List (Int × Int) × Nat) ⊕ (Ln × List (Int × Int)) => match p with
                | .inl p => p.1 < 2 ^ s.toNat ∧ (0 ≤ p.2.1 ∧ p.2.1 < s) ∧ 0 ≤ dep s nx lp p.1 ∧ dep s nx lp p.1 ≤ p.2.2.2.2 ∧ DskOk s nx ⟨lf, p.2.2.1, p.2.2.1.length, setN p.1⟩ ∧ p.2.2.2.1.length ≤ 136 + 7 * p.2.2.1.length ∧ rnds s nx lp p.2.2.2.2 p.1 p.2.1 p.2.2.1 p.2.2.2.1 = R
                | .inr _ => R.2.1 = true)
                (fun _ => [(1, .d (.int .i64 st)), (2, .d (.lst (ds.map deedD))), (3, .d (.ptr (.agg [.int .i64 s, rows nx, ints lp]))), (9, .ref 9 0), (11, .ref 11 0), (12, .ref 12 0), (13, .fn 68 [.ref 12 0, .ref 9 0, .ref 11 0]), (14, .d (.lst [deedD (3, 0), deedD (4, 0), deedD (8, 0)]))])
                (fun p => match p with
                | .inl p => [(9, .box [.ref 600 0]), (11, .box [.own 33]), (12, .box [.d (.bool false)]), (33, dsC (p.2.2.2.1)), (99, wrC ([])), (600, wkB (.own 99) (lnH p.2.1 lf p.2.2.1 (setN p.1)) s nx lp)]
                | .inr p => [(9, .box [.ref 600 0]), (11, .box [.own 33]), (12, .box [.d (.bool true)]), (33, dsC (p.2)), (99, wrC ([])), (600, wkB (.own 99) (p.1) s nx lp)])
                (fun p => match p with
                | .inl p => (dep s nx lp p.1).toNat + 1
                | .inr _ => 0) (.inl (f0, Q, ord, L4, (dep s nx lp f0).toNat)) ⟨f1, q1, by show 0 ≤ dep s nx lp f0; omega, by show dep s nx lp f0 ≤ ((dep s nx lp f0).toNat : Nat); omega, ⟨hlife, hol, hordok, ⟨by show (0 : Int) ≤ (ord.length : Nat); omega, Int.le_refl _⟩, b1, b2⟩, by show L4.length ≤ _; omega, hR.symm⟩ ?_ rfl ?_
              · exact zs
              · clear hfl
                rintro (⟨f, q, ord', out, k⟩ | ⟨m, out⟩) hI
                · obtain ⟨i1, i2, i3, i4, i5, i6, i7⟩ := hI
                  dsimp only at i1 i2 i3 i4 i5 i6 i7 ⊢
                  have hf1024 : f < 1024 := by omega
                  have hls := len_sm hf1024
                  have hdz := dep_zero (s := s) (nx := nx) (lp := lp) (f := f)
                  have hle : (List.map (D.int IntKind.i64) (setN f)).length = (setN f).length := by simp
                  have hlo : (out.map deedD).length = out.length := by simp
                  have hld : (ds.map deedD).length = ds.length := by simp
                  have hol' : ord'.length ≤ 60 := i5.len
                  by_cases hz : dep s nx lp f = 0
                  · have hsm := hls.2 (hdz.1 hz)
                    rw [rnds_end hz] at i7
                    subst i7
                    dsimp only
                    unfold wkB wrC dsC lnH
                    by_cases h400 : 400 < ds.length + out.length
                    ·
                      rw [if_pos (.inr h400)]
                      repeat (first | refine zc ?_ | refine zv ?_ | refine zg ?_)
                      refine awp_nilSlot 6 7777 74 2 rfl rfl rfl ?_
                      (refine awp_ret ?_; (repeat (first | refine then_r ?_ | refine block_r ?_ | refine loop_r ?_)); refine u_rH [(7777, 30000)] ?_ ?_)
                      · rfl
                      · rfl

                    ·
                      rw [if_neg (by simp; omega)]
                      repeat (first | refine zc ?_ | refine zv ?_ | refine zg ?_)
                      (refine awp_ret ?_; (repeat (first | refine then_r ?_ | refine block_r ?_ | refine loop_r ?_)); refine u_rH [(33, 30000)] ?_ ?_)
                      · rfl
                      · rfl

                  · have hbig : ¬ (setN f).length ≤ 1 := fun h => hz (hdz.2 (hls.1 h))
                    obtain ⟨x, y, q', stp1⟩ := stp hv i1 i2 (by omega)
                    have hL : ∀ q ∈ setN f, 0 ≤ q ∧ q < s := fun q hq => by have := setN_lt i1 hq; omega
                    have hLn : (setN f).length ≤ 64 := setTo_length f 64
                    have e6 := impl_flockOf (l := setN f) (fun q hq => by have := hL q hq; omega) (by omega)
                    rw [bits_set (by omega)] at e6
                    have e7 := impl_adaptive v i1
                    rw [decide_eq_true i3, if_pos i3, if_pos i3, stp1.l1] at e7
                    have hsz := impl_size1 (ns := ord')
                    have hx1 := stp1.x1
                    have hx2 : (x : Int) < nx.length := by omega
                    have hbl := bel_list v i1 stp1.x1 (y := y)
                    have k0 : LnOk s nx 60 (lnH q lf ord' (setN f)) := lnP_ok i5 i2 (by omega)
                    have hxe : 0 ≤ (x : Int) ∧ (x : Int) ≤ 999 := by omega
                    have hdd : ∀ p ∈ [((1 : Int), (x : Int)), (8, 0), (2, (ord'.length : Int)), (4, 0)], ddOk p := fun p hp => by
                      simp at hp
                      rcases hp with rfl | rfl | rfl | rfl
                      · exact dd2 (by decide) hxe
                      · exact dd0 (by decide)
                      · exact dd2 (by decide) (by omega)
                      · exact dd0 (by decide)
                    by_cases ho : ord'.length = 60
                    · rw [rnds_full hz (by omega) ho] at i7

                      have r1 := impl_homeX (out := out) (L := [(8, 0), (2, (ord'.length : Int)), (4, 0)]) hv k0 (by simp) hdd (by simp; omega) (do_full hx2 ho)
                      have r2 := impl_homeT (out := out ++ [((1 : Int), (x : Int)), (8, 0), (2, (ord'.length : Int)), (4, 0)]) hv k0 (by simp [hearL]) hh (by simp [hearL]; omega)
                      clear k0 hdd hbl stp1
                      generalize out ++ [((1 : Int), (x : Int)), (8, 0), (2, (ord'.length : Int)), (4, 0)] ++ hearL = O5 at *
                      generalize out ++ [((1 : Int), (x : Int)), (8, 0), (2, (ord'.length : Int)), (4, 0)] = O4 at *
                      unfold wkB wrC dsC lnH at *
                      repeat (first | refine zc ?_ | ((first | apply c_l | apply c_q | apply c_lr | apply c_qr); (iterate 2 exact rfl); (focus (first | exact e6 | exact e7 | exact hsz)); (iterate 2 exact rfl)) | (apply v_c; (iterate 4 exact rfl); (focus (first | exact e6 | exact e7 | exact hsz)); (iterate 2 exact rfl)) | refine zv ?_ | refine zg ?_)
                      refine hcl [(12, 10000), (9, 10001), (11, 10002), (600, 10003), (99, 20000), (33, 20001)] [(10000, 12), (10001, 9), (10002, 11), (10003, 600), (20000, 99), (20001, 33)] r1 ?_
                      repeat (first | refine zc ?_ | refine zv ?_)
                      refine hcl [(12, 10000), (9, 10001), (11, 10002), (600, 10003), (99, 20000), (33, 20001)] [(10000, 12), (10001, 9), (10002, 11), (10003, 600), (20000, 99), (20001, 33)] r2 ?_
                      refine awpL_perm _ rfl ?_
                      repeat (first | refine zc ?_ | refine zv ?_)
                      refine loop_n (.inr (⟨q, lf, ord'.length, ⟨lf, ord', ord'.length, setN f⟩, ⟨lf, ord', ord'.length, setN f⟩, []⟩, O5)) (by show R.2.1 = true; rw [← i7]) ?_ ?_ (by show 0 < (dep s nx lp f).toNat + 1; omega)
                      · exact zs
                      · (as_aux_lemma => kernel_rfl)

                    · rw [rnds_step stp1 (by omega) i4 ho] at i7

                      have hd2 : DskOk s nx ⟨lf, ord' ++ [(x : Int)], ord'.length, setN f⟩ := by
                        refine ⟨i5.life, by simp; omega, fun z hz => ?_, ⟨by show (0 : Int) ≤ (ord'.length : Nat); omega, by first | (simp; done) | (simp; omega)⟩, i5.bel, i5.ris⟩
                        rcases List.mem_append.1 hz with hz | hz
                        · exact i5.ord z hz
                        · simp at hz; subst hz; exact ⟨by omega, hx2⟩
                      have k4 : LnOk s nx 60 (lnP q' lf (ord' ++ [(x : Int)]) (ord' ++ [(x : Int)]).length ord'.length (setN f)) := lnP_ok hd2 stp1.q1 (by simp; omega)
                      have w4 := went_four (s := s) (lp := lp) (q := q) (lf := lf) (bel := setN f) hx2 ho
                      rw [stp1.a1] at w4
                      have r1 := impl_homeW (out := out) hv k0 (by simp) hdd (by simp; omega) w4
                      have r2 := impl_homeW (out := out ++ [((1 : Int), (x : Int)), (8, 0), (2, (ord'.length : Int)), (4, 0)]) hv k4 (by simp [hearL]) hh (by simp [hearL]; omega) (went_hear rfl)
                      rw [rnd_hear, stp1.y2, hbl] at r2
                      have hfin : out ++ [((1 : Int), (x : Int)), (8, 0), (2, (ord'.length : Int)), (4, 0)] ++ hearL = out ++ rndL x ord'.length := by simp [rndL]
                      rw [hfin] at r2
                      have hdn : DskOk s nx ⟨lf, ord' ++ [(x : Int)], (ord' ++ [(x : Int)]).length, setN (bel nx lp f x y)⟩ := ⟨hd2.life, hd2.len, hd2.ord, ⟨by show (0 : Int) ≤ ((ord' ++ [(x : Int)]).length : Nat); omega, Int.le_refl _⟩, fun z hz => by have := setN_lt stp1.f1 hz; omega, setTo_pairwise _ 64⟩
                      have hfl : (out ++ rndL x ord'.length).length = out.length + 7 := by simp [rndL, hearL]
                      have hoe : (ord' ++ [(x : Int)]).length = ord'.length + 1 := by simp
                      have hd1 := stp1.d1
                      have hf1 := stp1.f1
                      have hq1 := stp1.q1
                      clear k0 k4 w4 hfin hbl stp1 hdd
                      generalize hN : out ++ rndL x ord'.length = On at *
                      generalize out ++ [((1 : Int), (x : Int)), (8, 0), (2, (ord'.length : Int)), (4, 0)] = O4 at *
                      generalize hfb : bel nx lp f x y = f' at *
                      generalize hob : ord' ++ [(x : Int)] = ob at *
                      unfold wkB wrC dsC lnP lnH at *
                      repeat (first | refine zc ?_ | ((first | apply c_l | apply c_q | apply c_lr | apply c_qr); (iterate 2 exact rfl); (focus (first | exact e6 | exact e7 | exact hsz)); (iterate 2 exact rfl)) | (apply v_c; (iterate 4 exact rfl); (focus (first | exact e6 | exact e7 | exact hsz)); (iterate 2 exact rfl)) | refine zv ?_ | refine zg ?_)
                      refine hcl [(12, 10000), (9, 10001), (11, 10002), (600, 10003), (99, 20000), (33, 20001)] [(10000, 12), (10001, 9), (10002, 11), (10003, 600), (20000, 99), (20001, 33)] r1 ?_
                      repeat (first | refine zc ?_ | refine zv ?_)
                      refine hcl [(12, 10000), (9, 10001), (11, 10002), (600, 10003), (99, 20000), (33, 20001)] [(10000, 12), (10001, 9), (10002, 11), (10003, 600), (20000, 99), (20001, 33)] r2 ?_
                      refine awpL_perm _ rfl ?_
                      repeat (first | refine zc ?_ | refine zv ?_)
                      refine loop_n (.inl (f', q', ob, On, k - 1)) ⟨hf1, hq1, hd1.1, by show dep s nx lp f' ≤ ((k - 1 : Nat) : Int); omega, hdn, by show On.length ≤ 136 + 7 * ob.length; omega, i7⟩ ?_ ?_ (by show (dep s nx lp f').toNat + 1 < (dep s nx lp f).toNat + 1; omega)
                      · exact zs
                      · (as_aux_lemma => kernel_rfl)

                ·
                  dsimp only at hI ⊢
                  rw [if_pos (.inl hI)]
                  unfold wkB wrC dsC
                  have hml : (m.d.bel.map (D.int .i64)).length = m.d.bel.length := by simp
                  by_cases hbl : (1 : Int) < (m.d.bel.map (D.int .i64)).length
                  · repeat (first | refine zc ?_ | refine zv ?_ | refine zg ?_)
                    refine awp_nilSlot 6 7777 74 2 rfl rfl rfl ?_
                    (refine awp_ret ?_; (repeat (first | refine then_r ?_ | refine block_r ?_ | refine loop_r ?_)); refine u_rH [(7777, 30000)] ?_ ?_)
                    · rfl
                    · rfl
                  · repeat (first | refine zc ?_ | refine zv ?_ | refine zg ?_)
                    refine awp_nilSlot 6 7777 74 2 rfl rfl rfl ?_
                    (refine awp_ret ?_; (repeat (first | refine then_r ?_ | refine block_r ?_ | refine loop_r ?_)); refine u_rH [(7777, 30000)] ?_ ?_)
                    · rfl
                    · rfl

  · rw [if_neg ha]
    generalize askC s st nx lp ds = c at *
    unfold ltD deedsD dsC at *
    refine hc_intro tabIs _ Tryz.func30 rfl rfl Tryz.ntmps30 rfl rfl rfl ?_ fun w0 ok0 XM XA anc => ?_
    · exact likeIn_nil
    repeat (first | refine zc ?_ | ((first | apply c_l | apply c_q | apply c_lr | apply c_qr); (iterate 2 exact rfl); (focus (first | exact e1)); (iterate 2 exact rfl)) | (apply v_c; (iterate 4 exact rfl); (focus (first | exact e1)); (iterate 2 exact rfl)) | refine zv ?_)
    refine awp_nilSlot 6 7777 74 2 rfl rfl rfl ?_
    (refine awp_ret ?_; (repeat (first | refine then_r ?_ | refine block_r ?_ | refine loop_r ?_)); refine u_rH [(7777, 30000)] ?_ ?_)
    · rfl
    · rfl
end Go.Proofs.YtampglcgipefnaaGreat
