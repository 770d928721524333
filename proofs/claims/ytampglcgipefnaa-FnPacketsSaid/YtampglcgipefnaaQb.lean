/- Drawn deeds. No condition. -/
import Derived.Test.YtampglcgipefnaaQa
namespace Go.Proofs.Ytampglcgipefnaa
open Go
attribute [local irreducible] awp awpL awpQL awpQ awpM pWalk Qt AC thenQ blockQ loopQ OpTo
set_option linter.unusedVariables false
set_option linter.unusedSimpArgs false
set_option maxHeartbeats 2000000
attribute [local irreducible] HC

def kindL : List Int := [1, 1, 1, 2, 2, 2, 3, 3, 4, 4, 4, 4, 5, 6, 7, 8, 8, 8, 9, 3]
/-- A number below n, seldom one more. -/
def upN (code : List Int) (n m : Int) (s : Src) : Int := n + pickV code m s / (m - 1)
def upV (code : List Int) (n m : Int) (s : Src) : Int := pickV code (upN code n m s) (pickS code m s)
def upS (code : List Int) (n m : Int) (s : Src) : Src := pickS code (upN code n m s) (pickS code m s)
/-- A drawn deed, and the source behind it. -/
def dd1 (code : List Int) (s : Int) (nl : Nat) (n : Ln) (k : Int) (r : Src) : (Int × Int) × Src :=
  if k = 1 then ((k, upV code nl 16 r), upS code nl 16 r)
  else if k = 2 then ((k, upV code n.sv.ord.length 8 r), upS code n.sv.ord.length 8 r)
  else if k = 4 ∨ k = 5 ∨ k = 6 then ((k, upV code n.wire.length 8 r), upS code n.wire.length 8 r)
  else if k = 7 then (if pickV code 3 (upS code s 12 r) = 0 then (k, upV code s 12 r) else (3, 0), pickS code 3 (upS code s 12 r))
  else ((k, 0), r)
def ddsK (code : List Int) (s : Int) (nx : List (List Int)) (lp : List Int) (n0 : Ln) (r0 : Src) : Nat → List (Int × Int) × Ln × Src
  | 0 => ([], n0, r0)
  | i + 1 =>
    let q := ddsK code s nx lp n0 r0 i
    let e := dd1 code s nx.length q.2.1 (kindL.getD (pickV code 20 q.2.2).toNat 0) (pickS code 20 q.2.2)
    (q.1 ++ [e.1], (doF s nx lp q.2.1 e.1.1 e.1.2).1, e.2)

theorem kind_range {j : Nat} (h : j < 20) : 1 ≤ kindL.getD j 0 ∧ kindL.getD j 0 ≤ 9 := by
  have : ((List.range 20).all fun j => decide (1 ≤ kindL.getD j 0) && decide (kindL.getD j 0 ≤ 9)) = true := by decide
  have := List.all_eq_true.1 this j (List.mem_range.2 h)
  simpa using this
theorem upN_range {code : List Int} {n m : Int} {r : Src} (hb : BytesOk code) (hm : 2 ≤ m) : n ≤ upN code n m r ∧ upN code n m r ≤ n + 1 := by
  have h := pick_range (s := r) (n := m) hb (by omega)
  unfold upN
  have h1 : 0 ≤ pickV code m r / (m - 1) := Int.ediv_nonneg h.1 (by omega)
  have h2 : pickV code m r / (m - 1) ≤ 1 := by
    have : pickV code m r / (m - 1) < 2 := Int.ediv_lt_of_lt_mul (by omega) (by omega)
    omega
  omega
theorem pick_any {code : List Int} {n : Int} {r : Src} (hb : BytesOk code) : 0 ≤ pickV code n r ∧ (pickV code n r < n ∨ pickV code n r = 0) := by
  by_cases h : 1 ≤ n
  · have := pick_range (s := r) hb h; omega
  · have : pickV code n r = 0 := by unfold pickV; rw [if_pos (by omega)]
    omega
theorem upV_range {code : List Int} {n m : Int} {r : Src} (hb : BytesOk code) (hm : 2 ≤ m) (hn : 0 ≤ n ∧ n ≤ 900) : 0 ≤ upV code n m r ∧ upV code n m r ≤ 999 := by
  have h := upN_range (n := n) (r := r) hb hm
  have := pick_any (n := upN code n m r) (r := pickS code m r) hb
  unfold upV
  omega
theorem upS_ok {code : List Int} {n m : Int} {r : Src} {k : Nat} (h : SOk r k) : SOk (upS code n m r) (k + 4) := pick_ok (pick_ok h)
theorem dd1_ok {code : List Int} {s : Int} {nl : Nat} {n : Ln} {k : Int} {r : Src} (hb : BytesOk code) (hk : 1 ≤ k ∧ k ≤ 9) (h1 : 0 ≤ s ∧ s ≤ 10) (h2 : nl ≤ 10) (h3 : n.sv.ord.length ≤ 60) (h4 : n.wire.length ≤ 10) : vdeed (dd1 code s nl n k r).1.1 (dd1 code s nl n k r).1.2 = true := by
  have a1 := upV_range (n := nl) (m := 16) (r := r) hb (by omega) (by omega)
  have a2 := upV_range (n := n.sv.ord.length) (m := 8) (r := r) hb (by omega) (by omega)
  have a3 := upV_range (n := n.wire.length) (m := 8) (r := r) hb (by omega) (by omega)
  have a4 := upV_range (n := s) (m := 12) (r := r) hb (by omega) (by omega)
  have key : ∀ k a : Int, k = 1 ∨ k = 2 ∨ k = 4 ∨ k = 5 ∨ k = 6 ∨ k = 7 → 0 ≤ a ∧ a ≤ 999 → vdeed k a = true := fun k a h h2 => by
    rcases h with rfl | rfl | rfl | rfl | rfl | rfl <;> simp [vdeed, inB, dtell, dtold] <;> omega
  unfold dd1
  split
  · exact key _ _ (by dsimp only; omega) a1
  split
  · exact key _ _ (by dsimp only; omega) a2
  split
  · exact key _ _ (by dsimp only; omega) a3
  split
  · dsimp only
    split
    · exact key _ _ (by omega) a4
    · decide
  · have : k = 3 ∨ k = 8 ∨ k = 9 := by omega
    rcases this with rfl | rfl | rfl <;> simp [vdeed, inB, dtell, dtold]
theorem dd1_src {code : List Int} {s : Int} {nl : Nat} {n : Ln} {k : Int} {r : Src} {j : Nat} (h : SOk r j) : SOk (dd1 code s nl n k r).2 (j + 6) := by
  have a := fun n m => upS_ok (code := code) (n := n) (m := m) h
  unfold dd1
  split
  · exact (a _ _).mono (by omega)
  split
  · exact (a _ _).mono (by omega)
  split
  · exact (a _ _).mono (by omega)
  split
  · show SOk (pickS code 3 (upS code s 12 r)) _
    exact pick_ok (a s 12)
  · exact h.mono (by omega)
/-- What holds of the deeds drawn so far. -/
theorem ddsK_ok {code : List Int} {s : Int} {nx : List (List Int)} {lp : List Int} {n0 : Ln} {r0 : Src} {k0 j0 : Nat} (hb : BytesOk code) (hv : litOk s nx lp = true) (hs : s ≤ 10) (hn : nx.length ≤ 10) (h0 : LnOk s nx k0 n0) (hr : SOk r0 j0) :
    ∀ i, (ddsK code s nx lp n0 r0 i).1.length = i ∧ (∀ p ∈ (ddsK code s nx lp n0 r0 i).1, vdeed p.1 p.2 = true) ∧ LnOk s nx (k0 + i) (ddsK code s nx lp n0 r0 i).2.1 ∧ SOk (ddsK code s nx lp n0 r0 i).2.2 (j0 + 8 * i)
  | 0 => ⟨rfl, (fun p hp => by cases hp), h0, hr⟩
  | i + 1 => by
    obtain ⟨h1, h2, h3, h4⟩ := ddsK_ok hb hv hs hn h0 hr i
    have v := lv_of hv
    have hp := pick_range (s := (ddsK code s nx lp n0 r0 i).2.2) (n := 20) hb (by omega)
    have hd := dd1_ok (s := s) (nl := nx.length) (n := (ddsK code s nx lp n0 r0 i).2.1) (r := pickS code 20 (ddsK code s nx lp n0 r0 i).2.2) hb (kind_range (j := (pickV code 20 (ddsK code s nx lp n0 r0 i).2.2).toNat) (by omega)) (by have := v.s1; omega) hn h3.sv.len h3.wl
    refine ⟨by simp [ddsK, h1], fun p hp => ?_, doF_ok hv h3 (ddOk_of hd), ?_⟩
    · rcases List.mem_append.1 hp with h | h
      · exact h2 p h
      · simp only [List.mem_singleton] at h; subst h; exact hd
    · exact (dd1_src (pick_ok h4)).mono (by omega)

/-- What is wanted where branches come together. -/
def meetQ (S1 : Slots) (H1 : Heap) : Exit → Slots → Heap → Prop
  | .normal, s, h => Subs s S1 ∧ sortH h = H1
  | _, _, _ => False
attribute [local semireducible] thenQ blockQ in
theorem thenQ_mono {cx : Cx} {c : Code} {Q' Q : Exit → Slots → Heap → Prop} (hq : ∀ e s h, Q' e s h → Q e s h) : ∀ e s h, thenQ cx c Q' e s h → thenQ cx c Q e s h := fun e s h ht => by
  cases e with
  | normal => exact awp_mono ht hq
  | _ => exact hq _ _ _ ht
attribute [local semireducible] thenQ blockQ in
theorem blockQ_mono {id : Nat} {Q' Q : Exit → Slots → Heap → Prop} (hq : ∀ e s h, Q' e s h → Q e s h) : ∀ e s h, blockQ id Q' e s h → blockQ id Q e s h := fun e s h ht => by
  cases e with
  | exit i =>
    by_cases e : i = id
    · subst e
      simp only [blockQ, if_true] at ht ⊢
      exact hq _ _ _ ht
    · simp only [blockQ, e, if_false] at ht ⊢
      exact hq _ _ _ ht
  | _ => exact hq _ _ _ ht
theorem meet_to {cx : Cx} {y : Code} {Q : Exit → Slots → Heap → Prop} {S1 : Slots} {H1 : Heap} (hy : awp cx y S1 H1 Q) : ∀ e s h, meetQ S1 H1 e s h → thenQ cx y Q e s h := fun e s h hm => by
  cases e with
  | normal => exact then_n (awp_perm H1 hm.2 (awp_sub hm.1 hy))
  | _ => exact False.elim hm
/-- A cut behind 'x; c' in a block of its own: the branches are walked apart and come together. -/
theorem awp_cutB {cx : Cx} {x c y : Code} {s : Slots} {h : Heap} {Q : Exit → Slots → Heap → Prop} {id : Nat} (S1 : Slots) (H1 : Heap) (hx : awp cx x s h (thenQ cx c (blockQ id (meetQ S1 H1)))) (hy : awp cx y S1 H1 Q) : awp cx x s h (thenQ cx c (blockQ id (thenQ cx y Q))) :=
  awp_mono hx (thenQ_mono (blockQ_mono (meet_to hy)))
/-- Ways out of a cut. -/
theorem meet_n {S1 : Slots} {H1 : Heap} {s : Slots} {h : Heap} (hs : Subs s S1) (hh : sortH h = H1) : meetQ S1 H1 .normal s h := ⟨hs, hh⟩

theorem spec_l08Deeds {code : List Int} {s st most : Int} {nx : List (List Int)} {lp : List Int} {r : Src} {j : Nat} (hb : BytesOk code) (hv : litOk s nx lp = true) (hst : 0 ≤ st ∧ st < s) (hm : 0 ≤ most ∧ most ≤ 100) (h : SOk r j) (hj : j ≤ 999990000) :
    HC Try.prog 27 [.ref 10000 0, .d (.ptr (ltD s nx lp)), .d (.int .i64 st), .d (.int .i64 most)] [(10000, srcB code r)] (.own 30000)
      [(10000, srcB code (ddsK code s nx lp (ln0 s st) (pickS code (most + 1) r) (pickV code (most + 1) r).toNat).2.2), (30000, .arr 35 2 ((ddsK code s nx lp (ln0 s st) (pickS code (most + 1) r) (pickV code (most + 1) r).toNat).1.map deedD))] := by
  have hP : ∀ (s : Src) (k : Nat) (n : Int), SOk s k → k ≤ 999999990 → n ≤ 1000 → HC Try.prog 63 [.ref 10000 0, .d (.int .i64 n)] [(10000, srcB code s)] (.d (.int .i64 (pickV code n s))) [(10000, srcB code (pickS code n s))] := fun s k n a b c => spec_pick hb a b (by omega)
  have hQ : ∀ (s : Src) (k : Nat) (n : Int), SOk s k → k ≤ 999999990 → n ≤ 1000 → HC Try.prog 33 [.ref 10000 0, .d (.int .i64 n)] [(10000, srcB code s)] (.d (.bool (decide (pickV code n s = 0)))) [(10000, srcB code (pickS code n s))] := fun s k n a b c => spec_one hb a b (by omega)
  have hA : ∀ (s : Src) (k : Nat), SOk s k → k ≤ 999999990 → HC Try.prog 65 [.ref 10000 0, .d (ints kindL)] [(10000, srcB code s)] (.d (.int .i64 (kindL.getD (pickV code 20 s).toNat 0))) [(10000, srcB code (pickS code 20 s))] := fun s k a b => spec_among (l := kindL) hb a b (by decide) (by decide)
  have v := lv_of hv
  have hs := v.s1
  have hn1 := v.n1
  have e1 := spec_l08Begin (s := s) (st := st) (nx := nx) (lp := lp) (by omega)
  have hr0 := pick_range (s := r) (n := most + 1) hb (by omega)
  have hc0 := hP r j (most + 1) h (by omega) (by omega)
  have hok := fun i => ddsK_ok (r0 := pickS code (most + 1) r) hb hv (by omega) (by omega) (ln0_ok (nx := nx) hst) (pick_ok h) i
  generalize pickV code (most + 1) r = K at *
  generalize pickS code (most + 1) r = r0 at *
  unfold ltD srcB at *
  refine hc_intro tabIs _ Try.func27 rfl rfl Try.ntmps27 rfl rfl rfl ?_ fun w0 ok0 XM XA anc => ?_
  · exact likeIn_cons rfl rfl likeIn_nil
  repeat (first | refine v_w (t := 13) ?_ | refine awp_seq ?_ | refine then_n ?_ | refine then_r ?_ | refine then_x ?_ | refine block_n ?_ | refine block_r ?_ | refine block_x ?_ | refine u_y ?_ | refine loop_r ?_ | refine loop_x ?_ | refine awp_region ?_ | refine awpL_nil ?_ | refine awpQL_nil ?_ | refine awp_block ?_ | refine awp_skip ?_ | refine awp_exit ?_ | refine awp_label ?_ | refine u_dT ?_ | refine u_d ?_ | refine u_w (t := 13) ?_ | ((first | apply c_l | apply c_q | apply c_lr | apply c_qr); (iterate 2 exact rfl); (focus (first | exact e1)); (iterate 2 exact rfl)) | (apply v_c; (iterate 4 exact rfl); (focus (first | exact e1)); (iterate 2 exact rfl)) | refine u_l ?_ | refine u_o ?_ | refine u_q ?_ | refine u_lr ?_ | refine u_qr ?_ | refine u_ls ?_ | refine u_qs ?_ | refine u_t ?_ | refine u_f ?_ | refine v_s ?_ | refine v_o ?_ | refine v_on ?_ | refine v_og ?_ | refine v_q ?_ | refine v_sr ?_ | refine v_k ?_ | refine m_nil ?_)
  refine hcl [(10000, 10000)] [(10000, 10000)] hc0 ?_
  repeat (first | refine awp_seq ?_ | refine then_n ?_ | refine then_r ?_ | refine then_x ?_ | refine block_n ?_ | refine block_r ?_ | refine block_x ?_ | refine u_y ?_ | refine loop_r ?_ | refine loop_x ?_ | refine awp_region ?_ | refine awpL_nil ?_ | refine awpQL_nil ?_ | refine awp_block ?_ | refine awp_skip ?_ | refine awp_exit ?_ | refine awp_label ?_ | refine u_dT ?_ | refine u_d ?_ | refine u_l ?_ | refine u_o ?_ | refine u_q ?_ | refine u_lr ?_ | refine u_qr ?_ | refine u_ls ?_ | refine u_qs ?_ | refine u_t ?_ | refine u_f ?_ | refine v_s ?_ | refine v_o ?_ | refine v_on ?_ | refine v_og ?_ | refine v_q ?_ | refine v_sr ?_ | refine v_k ?_ | refine m_nil ?_)
  refine awp_nilCell 10 11 99 72 4 rfl rfl rfl rfl rfl ?_
  refine awp_permTo [(10, lnB (.own 99) (ln0 s st)), (13, .arr 35 2 []), (99, wrC []), (10000, .box [.d (u8s code), .d (.int .i64 r0.pos), .d (.int .u64 r0.sd)])] rfl ?_
  refine awp_loop (fun i : Nat => (i : Int) ≤ K) (fun i => [(0, .ref 10000 0), (1, .d (.ptr (.agg [.int .i64 s, rows nx, ints lp]))), (9, .own 13), (10, .ref 10 0), (11, .d (.int .i64 (K - i)))])
    (fun i => [(10, lnB (.own 99) (ddsK code s nx lp (ln0 s st) r0 i).2.1), (13, .arr 35 2 ((ddsK code s nx lp (ln0 s st) r0 i).1.map deedD)), (99, wrC (ddsK code s nx lp (ln0 s st) r0 i).2.1.wire), (10000, .box [.d (u8s code), .d (.int .i64 (ddsK code s nx lp (ln0 s st) r0 i).2.2.pos), .d (.int .u64 (ddsK code s nx lp (ln0 s st) r0 i).2.2.sd)])]) (fun i => K.toNat - i) 0 (by omega) ?_ rfl ?_
  · rw [show K - ((0 : Nat) : Int) = K by omega]
    ((repeat (first | exact trivial | (refine ⟨?_, ?_⟩; (focus (first | rfl | (simp [lk, argsS, args0]; done) | (simp [lk, argsS, args0]; omega)))))))
  · intro i hi
    obtain ⟨o1, o2, o3, o4⟩ := hok i
    by_cases hlt : (i : Int) < K
    · have hst : ddsK code s nx lp (ln0 s st) r0 (i + 1) = ((ddsK code s nx lp (ln0 s st) r0 i).1 ++ [(dd1 code s nx.length (ddsK code s nx lp (ln0 s st) r0 i).2.1 (kindL.getD (pickV code 20 (ddsK code s nx lp (ln0 s st) r0 i).2.2).toNat 0) (pickS code 20 (ddsK code s nx lp (ln0 s st) r0 i).2.2)).1],
        (doF s nx lp (ddsK code s nx lp (ln0 s st) r0 i).2.1 (dd1 code s nx.length (ddsK code s nx lp (ln0 s st) r0 i).2.1 (kindL.getD (pickV code 20 (ddsK code s nx lp (ln0 s st) r0 i).2.2).toNat 0) (pickS code 20 (ddsK code s nx lp (ln0 s st) r0 i).2.2)).1.1 (dd1 code s nx.length (ddsK code s nx lp (ln0 s st) r0 i).2.1 (kindL.getD (pickV code 20 (ddsK code s nx lp (ln0 s st) r0 i).2.2).toNat 0) (pickS code 20 (ddsK code s nx lp (ln0 s st) r0 i).2.2)).1.2).1,
        (dd1 code s nx.length (ddsK code s nx lp (ln0 s st) r0 i).2.1 (kindL.getD (pickV code 20 (ddsK code s nx lp (ln0 s st) r0 i).2.2).toNat 0) (pickS code 20 (ddsK code s nx lp (ln0 s st) r0 i).2.2)).2) := rfl
      generalize ddsK code s nx lp (ln0 s st) r0 i = q at *
      have hp20 := pick_range (s := q.2.2) (n := 20) hb (by omega)
      have hkr := kind_range (j := (pickV code 20 q.2.2).toNat) (by omega)
      have hca := hA _ _ o4 (by omega)
      have k1 := pick_ok (code := code) (n := 20) o4
      have hd1 := ddOk_of (dd1_ok (s := s) (nl := nx.length) (n := q.2.1) (r := pickS code 20 q.2.2) hb hkr (by omega) (by omega) o3.sv.len o3.wl)
      generalize kindL.getD (pickV code 20 q.2.2).toNat 0 = kd at *
      generalize pickS code 20 q.2.2 = r1 at *
      have c9 := spec_l08Do hv o3 (by omega) hd1
      have hml : (List.map ints nx).length = nx.length := by simp
      have hsvl : (q.2.1.sv.ord.map (D.int .i64)).length = q.2.1.sv.ord.length := by simp
      have hwl : (q.2.1.wire.map pkD).length = q.2.1.wire.length := by simp
      have hsvn := o3.sv.len
      have hwln := o3.wl
      unfold lnB wrC at *
      repeat (first | refine awp_seq ?_ | refine then_n ?_ | refine then_r ?_ | refine then_x ?_ | refine block_n ?_ | refine block_r ?_ | refine block_x ?_ | refine u_y ?_ | refine loop_r ?_ | refine loop_x ?_ | refine awp_region ?_ | refine awpL_nil ?_ | refine awpQL_nil ?_ | refine awp_block ?_ | refine awp_skip ?_ | refine awp_exit ?_ | refine awp_label ?_ | refine u_dT ?_ | refine u_d ?_ | refine u_l ?_ | refine u_o ?_ | refine u_q ?_ | refine u_lr ?_ | refine u_qr ?_ | refine u_ls ?_ | refine u_qs ?_ | refine u_t ?_ | refine u_f ?_ | refine v_s ?_ | refine v_o ?_ | refine v_on ?_ | refine v_og ?_ | refine v_q ?_ | refine v_sr ?_ | refine v_k ?_ | refine m_nil ?_)
      refine hcl [(10000, 10000)] [(10000, 10000)] hca ?_
      repeat (first | refine awp_seq ?_ | refine then_n ?_ | refine then_r ?_ | refine then_x ?_ | refine block_n ?_ | refine block_r ?_ | refine block_x ?_ | refine u_y ?_ | refine loop_r ?_ | refine loop_x ?_ | refine awpL_nil ?_ | refine awpQL_nil ?_ | refine awp_block ?_ | refine awp_skip ?_ | refine awp_exit ?_ | refine awp_label ?_ | refine u_dT ?_ | refine u_d ?_ | refine u_l ?_ | refine u_o ?_ | refine u_q ?_ | refine u_lr ?_ | refine u_qr ?_ | refine u_ls ?_ | refine u_qs ?_ | refine u_t ?_ | refine u_f ?_ | refine v_s ?_ | refine v_o ?_ | refine v_on ?_ | refine v_og ?_ | refine v_q ?_ | refine v_sr ?_ | refine v_k ?_ | refine m_nil ?_)
      refine awp_sub (s' := [(0, .ref 10000 0), (1, .d (.ptr (.agg [.int .i64 s, rows nx, ints lp]))), (9, .own 13), (10, .ref 10 0), (11, .d (.int .i64 (K - i))), (12, .ref 12 0)]) (by ((repeat (first | exact trivial | (refine ⟨?_, ?_⟩; (focus (first | rfl | (simp [lk, argsS, args0]; done) | (simp [lk, argsS, args0]; omega)))))))) ?_
      refine awp_permTo [(10, lnB (.own 99) q.2.1), (12, .box [.d (.int .i64 kd), .d (.int .i64 0)]), (13, .arr 35 2 (q.1.map deedD)), (99, wrC q.2.1.wire), (10000, .box [.d (u8s code), .d (.int .i64 r1.pos), .d (.int .u64 r1.sd)])] rfl ?_
      refine awp_region ?_
      repeat (first | refine awp_seq ?_ | refine then_n ?_ | refine then_r ?_ | refine then_x ?_ | refine block_n ?_ | refine block_r ?_ | refine block_x ?_ | refine u_y ?_ | refine loop_r ?_ | refine loop_x ?_ | refine awpL_nil ?_ | refine awpQL_nil ?_ | refine awp_block ?_ | refine awp_skip ?_ | refine awp_exit ?_ | refine awp_label ?_ | refine u_dT ?_ | refine u_d ?_ | refine u_l ?_ | refine u_o ?_ | refine u_q ?_ | refine u_lr ?_ | refine u_qr ?_ | refine u_ls ?_ | refine u_qs ?_ | refine u_t ?_ | refine u_f ?_ | refine v_s ?_ | refine v_o ?_ | refine v_on ?_ | refine v_og ?_ | refine v_q ?_ | refine v_sr ?_ | refine v_k ?_ | refine m_nil ?_)
      refine awp_cutB [(0, .ref 10000 0), (1, .d (.ptr (.agg [.int .i64 s, rows nx, ints lp]))), (9, .own 13), (10, .ref 10 0), (11, .d (.int .i64 (K - i))), (12, .ref 12 0)] [(10, lnB (.own 99) q.2.1), (12, .box [.d (.int .i64 (dd1 code s nx.length q.2.1 kd r1).1.1), .d (.int .i64 (dd1 code s nx.length q.2.1 kd r1).1.2)]), (13, .arr 35 2 (q.1.map deedD)), (99, wrC q.2.1.wire), (10000, .box [.d (u8s code), .d (.int .i64 (dd1 code s nx.length q.2.1 kd r1).2.pos), .d (.int .u64 (dd1 code s nx.length q.2.1 kd r1).2.sd)])] ?_ ?_
      · unfold lnB wrC
        refine awp_region ?_
        by_cases d1 : kd = 1
        · have : dd1 code s nx.length q.2.1 kd r1 = ((kd, upV code nx.length 16 r1), upS code nx.length 16 r1) := if_pos d1
          rw [this, ← hml]
          have hun := upN_range (n := ((List.map ints nx).length : Nat)) (m := 16) (r := r1) hb (by omega)
          have hpm := pick_range (s := r1) (n := 16) hb (by omega)
          have ca := hP _ _ 16 k1 (by omega) (by omega)
          have cb := hP (pickS code 16 r1) _ (upN code ((List.map ints nx).length : Nat) 16 r1) (pick_ok k1) (by omega) (by omega)
          repeat (first | refine awp_seq ?_ | refine then_n ?_ | refine then_r ?_ | refine then_x ?_ | refine block_n ?_ | refine block_r ?_ | refine block_x ?_ | refine u_y ?_ | refine loop_r ?_ | refine loop_x ?_ | refine awp_region ?_ | refine awpL_nil ?_ | refine awpQL_nil ?_ | refine awp_block ?_ | refine awp_skip ?_ | refine awp_exit ?_ | refine awp_label ?_ | refine u_l ?_ | refine u_o ?_ | refine u_q ?_ | refine u_lr ?_ | refine u_qr ?_ | refine u_ls ?_ | refine u_qs ?_ | refine u_t ?_ | refine u_f ?_ | refine v_s ?_ | refine v_o ?_ | refine v_on ?_ | refine v_og ?_ | refine v_q ?_ | refine v_sr ?_ | refine v_k ?_ | refine m_nil ?_)
          refine u_mJ [(0, []), (8, [10000]), (11, [10000]), (13, [12])] (.tk [10000] [1, 2, 3, 4, 5, 6] (.tk [] [7] (.fork 0 8 (.tk [] [8, 9, 10, 11, 12, 13] .done) (.tk [] [0, 9, 10, 11, 12, 13] .done))))
            [(0, .ref 10000 0), (1, .d (.ptr (.agg [.int .i64 s, rows nx, ints lp]))), (9, .own 13), (10, .ref 10 0), (11, .d (.int .i64 (K - i))), (12, .ref 12 0)]
            [(10, .box [.d (.int .i64 q.2.1.st), .d (.int .i64 q.2.1.life), .d (.int .i64 q.2.1.tk), .d (.int .i64 q.2.1.d.life), .d (ints q.2.1.d.ord), .d (.int .i64 q.2.1.d.sure), .d (ints q.2.1.d.bel), .d (.int .i64 q.2.1.sv.life), .d (ints q.2.1.sv.ord), .d (.int .i64 q.2.1.sv.sure), .d (ints q.2.1.sv.bel), .own 99]), (12, .box [.d (.int .i64 kd), .d (.int .i64 (upV code ((List.map ints nx).length : Nat) 16 r1))]), (13, .arr 35 2 (q.1.map deedD)), (99, .arr 72 4 (q.2.1.wire.map pkD)), (10000, .box [.d (u8s code), .d (.int .i64 (upS code ((List.map ints nx).length : Nat) 16 r1).pos), .d (.int .u64 (upS code ((List.map ints nx).length : Nat) 16 r1).sd)])] ?_ ?_
          · repeat' (first | refine m_fork ?_ ?_ | refine m_fork3 ?_ ?_ ?_ | refine hclM [(10000, 10000)] [(10000, 10000)] ca ?_ | refine hclM [(10000, 10000)] [(10000, 10000)] cb ?_ | refine awp_seq ?_ | refine then_n ?_ | refine then_r ?_ | refine then_x ?_ | refine block_n ?_ | refine block_r ?_ | refine block_x ?_ | refine u_y ?_ | refine loop_r ?_ | refine loop_x ?_ | refine awp_region ?_ | refine awpL_nil ?_ | refine awpQL_nil ?_ | refine awp_block ?_ | refine awp_skip ?_ | refine awp_exit ?_ | refine awp_label ?_ | refine u_dT ?_ | refine u_d ?_ | refine u_l ?_ | refine u_o ?_ | refine u_q ?_ | refine u_lr ?_ | refine u_qr ?_ | refine u_ls ?_ | refine u_qs ?_ | refine u_t ?_ | refine u_f ?_ | refine v_s ?_ | refine v_o ?_ | refine v_on ?_ | refine v_og ?_ | refine v_q ?_ | refine v_sr ?_ | refine v_k ?_ | refine m_nil ?_)
            all_goals exact ⟨by ((repeat (first | exact trivial | (refine ⟨?_, ?_⟩; (focus (first | rfl | (simp [lk, argsS, args0]; done) | (simp [lk, argsS, args0]; omega))))))), perm_of_sort rfl⟩
          · repeat (first | refine awp_seq ?_ | refine then_n ?_ | refine then_r ?_ | refine then_x ?_ | refine block_n ?_ | refine block_r ?_ | refine block_x ?_ | refine u_y ?_ | refine loop_r ?_ | refine loop_x ?_ | refine awp_region ?_ | refine awpL_nil ?_ | refine awpQL_nil ?_ | refine awp_block ?_ | refine awp_skip ?_ | refine awp_exit ?_ | refine awp_label ?_ | refine u_dT ?_ | refine u_d ?_ | refine u_l ?_ | refine u_o ?_ | refine u_q ?_ | refine u_lr ?_ | refine u_qr ?_ | refine u_ls ?_ | refine u_qs ?_ | refine u_t ?_ | refine u_f ?_ | refine v_s ?_ | refine v_o ?_ | refine v_on ?_ | refine v_og ?_ | refine v_q ?_ | refine v_sr ?_ | refine v_k ?_ | refine m_nil ?_)
            exact meet_n (by ((repeat (first | exact trivial | (refine ⟨?_, ?_⟩; (focus (first | rfl | (simp [lk, argsS, args0]; done) | (simp [lk, argsS, args0]; omega)))))))) rfl
        · by_cases d2 : kd = 2
          · have : dd1 code s nx.length q.2.1 kd r1 = ((kd, upV code q.2.1.sv.ord.length 8 r1), upS code q.2.1.sv.ord.length 8 r1) := by unfold dd1; rw [if_neg d1, if_pos d2]
            rw [this, ← hsvl]
            have hun := upN_range (n := ((q.2.1.sv.ord.map (D.int .i64)).length : Nat)) (m := 8) (r := r1) hb (by omega)
            have hpm := pick_range (s := r1) (n := 8) hb (by omega)
            have ca := hP _ _ 8 k1 (by omega) (by omega)
            have cb := hP (pickS code 8 r1) _ (upN code ((q.2.1.sv.ord.map (D.int .i64)).length : Nat) 8 r1) (pick_ok k1) (by omega) (by omega)
            repeat (first | refine awp_seq ?_ | refine then_n ?_ | refine then_r ?_ | refine then_x ?_ | refine block_n ?_ | refine block_r ?_ | refine block_x ?_ | refine u_y ?_ | refine loop_r ?_ | refine loop_x ?_ | refine awp_region ?_ | refine awpL_nil ?_ | refine awpQL_nil ?_ | refine awp_block ?_ | refine awp_skip ?_ | refine awp_exit ?_ | refine awp_label ?_ | refine u_l ?_ | refine u_o ?_ | refine u_q ?_ | refine u_lr ?_ | refine u_qr ?_ | refine u_ls ?_ | refine u_qs ?_ | refine u_t ?_ | refine u_f ?_ | refine v_s ?_ | refine v_o ?_ | refine v_on ?_ | refine v_og ?_ | refine v_q ?_ | refine v_sr ?_ | refine v_k ?_ | refine m_nil ?_)
            refine u_mJ [(0, []), (6, [10000]), (9, [10000]), (11, [12])] (.tk [10000] [1, 2, 3, 4] (.tk [] [5] (.fork 0 6 (.tk [] [6, 7, 8, 9, 10, 11] .done) (.tk [] [0, 7, 8, 9, 10, 11] .done))))
              [(0, .ref 10000 0), (1, .d (.ptr (.agg [.int .i64 s, rows nx, ints lp]))), (9, .own 13), (10, .ref 10 0), (11, .d (.int .i64 (K - i))), (12, .ref 12 0)]
              [(10, .box [.d (.int .i64 q.2.1.st), .d (.int .i64 q.2.1.life), .d (.int .i64 q.2.1.tk), .d (.int .i64 q.2.1.d.life), .d (ints q.2.1.d.ord), .d (.int .i64 q.2.1.d.sure), .d (ints q.2.1.d.bel), .d (.int .i64 q.2.1.sv.life), .d (ints q.2.1.sv.ord), .d (.int .i64 q.2.1.sv.sure), .d (ints q.2.1.sv.bel), .own 99]), (12, .box [.d (.int .i64 kd), .d (.int .i64 (upV code ((q.2.1.sv.ord.map (D.int .i64)).length : Nat) 8 r1))]), (13, .arr 35 2 (q.1.map deedD)), (99, .arr 72 4 (q.2.1.wire.map pkD)), (10000, .box [.d (u8s code), .d (.int .i64 (upS code ((q.2.1.sv.ord.map (D.int .i64)).length : Nat) 8 r1).pos), .d (.int .u64 (upS code ((q.2.1.sv.ord.map (D.int .i64)).length : Nat) 8 r1).sd)])] ?_ ?_
            · repeat' (first | refine m_fork ?_ ?_ | refine m_fork3 ?_ ?_ ?_ | refine hclM [(10000, 10000)] [(10000, 10000)] ca ?_ | refine hclM [(10000, 10000)] [(10000, 10000)] cb ?_ | refine awp_seq ?_ | refine then_n ?_ | refine then_r ?_ | refine then_x ?_ | refine block_n ?_ | refine block_r ?_ | refine block_x ?_ | refine u_y ?_ | refine loop_r ?_ | refine loop_x ?_ | refine awp_region ?_ | refine awpL_nil ?_ | refine awpQL_nil ?_ | refine awp_block ?_ | refine awp_skip ?_ | refine awp_exit ?_ | refine awp_label ?_ | refine u_dT ?_ | refine u_d ?_ | refine u_l ?_ | refine u_o ?_ | refine u_q ?_ | refine u_lr ?_ | refine u_qr ?_ | refine u_ls ?_ | refine u_qs ?_ | refine u_t ?_ | refine u_f ?_ | refine v_s ?_ | refine v_o ?_ | refine v_on ?_ | refine v_og ?_ | refine v_q ?_ | refine v_sr ?_ | refine v_k ?_ | refine m_nil ?_)
              all_goals exact ⟨by ((repeat (first | exact trivial | (refine ⟨?_, ?_⟩; (focus (first | rfl | (simp [lk, argsS, args0]; done) | (simp [lk, argsS, args0]; omega))))))), perm_of_sort rfl⟩
            · repeat (first | refine awp_seq ?_ | refine then_n ?_ | refine then_r ?_ | refine then_x ?_ | refine block_n ?_ | refine block_r ?_ | refine block_x ?_ | refine u_y ?_ | refine loop_r ?_ | refine loop_x ?_ | refine awp_region ?_ | refine awpL_nil ?_ | refine awpQL_nil ?_ | refine awp_block ?_ | refine awp_skip ?_ | refine awp_exit ?_ | refine awp_label ?_ | refine u_dT ?_ | refine u_d ?_ | refine u_l ?_ | refine u_o ?_ | refine u_q ?_ | refine u_lr ?_ | refine u_qr ?_ | refine u_ls ?_ | refine u_qs ?_ | refine u_t ?_ | refine u_f ?_ | refine v_s ?_ | refine v_o ?_ | refine v_on ?_ | refine v_og ?_ | refine v_q ?_ | refine v_sr ?_ | refine v_k ?_ | refine m_nil ?_)
              exact meet_n (by ((repeat (first | exact trivial | (refine ⟨?_, ?_⟩; (focus (first | rfl | (simp [lk, argsS, args0]; done) | (simp [lk, argsS, args0]; omega)))))))) rfl
          · by_cases d3 : kd = 4 ∨ kd = 5 ∨ kd = 6
            · have : dd1 code s nx.length q.2.1 kd r1 = ((kd, upV code q.2.1.wire.length 8 r1), upS code q.2.1.wire.length 8 r1) := by unfold dd1; rw [if_neg d1, if_neg d2, if_pos d3]
              rw [this, ← hwl]
              have hun := upN_range (n := ((q.2.1.wire.map pkD).length : Nat)) (m := 8) (r := r1) hb (by omega)
              have hpm := pick_range (s := r1) (n := 8) hb (by omega)
              have ca := hP _ _ 8 k1 (by omega) (by omega)
              have cb := hP (pickS code 8 r1) _ (upN code ((q.2.1.wire.map pkD).length : Nat) 8 r1) (pick_ok k1) (by omega) (by omega)
              rcases d3 with d4 | d4 | d4
              · repeat (first | refine awp_seq ?_ | refine then_n ?_ | refine then_r ?_ | refine then_x ?_ | refine block_n ?_ | refine block_r ?_ | refine block_x ?_ | refine u_y ?_ | refine loop_r ?_ | refine loop_x ?_ | refine awp_region ?_ | refine awpL_nil ?_ | refine awpQL_nil ?_ | refine awp_block ?_ | refine awp_skip ?_ | refine awp_exit ?_ | refine awp_label ?_ | refine u_l ?_ | refine u_o ?_ | refine u_q ?_ | refine u_lr ?_ | refine u_qr ?_ | refine u_ls ?_ | refine u_qs ?_ | refine u_t ?_ | refine u_f ?_ | refine v_s ?_ | refine v_o ?_ | refine v_on ?_ | refine v_og ?_ | refine v_q ?_ | refine v_sr ?_ | refine v_k ?_ | refine m_nil ?_)
                refine u_mJ [(0, []), (5, [10000]), (8, [10000]), (10, [12])] (.tk [10000] [1, 2, 3] (.tk [] [4] (.fork 0 5 (.tk [] [5, 6, 7, 8, 9, 10] .done) (.tk [] [0, 6, 7, 8, 9, 10] .done))))
                  [(0, .ref 10000 0), (1, .d (.ptr (.agg [.int .i64 s, rows nx, ints lp]))), (9, .own 13), (10, .ref 10 0), (11, .d (.int .i64 (K - i))), (12, .ref 12 0)]
                  [(10, .box [.d (.int .i64 q.2.1.st), .d (.int .i64 q.2.1.life), .d (.int .i64 q.2.1.tk), .d (.int .i64 q.2.1.d.life), .d (ints q.2.1.d.ord), .d (.int .i64 q.2.1.d.sure), .d (ints q.2.1.d.bel), .d (.int .i64 q.2.1.sv.life), .d (ints q.2.1.sv.ord), .d (.int .i64 q.2.1.sv.sure), .d (ints q.2.1.sv.bel), .own 99]), (12, .box [.d (.int .i64 kd), .d (.int .i64 (upV code ((q.2.1.wire.map pkD).length : Nat) 8 r1))]), (13, .arr 35 2 (q.1.map deedD)), (99, .arr 72 4 (q.2.1.wire.map pkD)), (10000, .box [.d (u8s code), .d (.int .i64 (upS code ((q.2.1.wire.map pkD).length : Nat) 8 r1).pos), .d (.int .u64 (upS code ((q.2.1.wire.map pkD).length : Nat) 8 r1).sd)])] ?_ ?_
                · repeat' (first | refine m_fork ?_ ?_ | refine m_fork3 ?_ ?_ ?_ | refine hclM [(10000, 10000)] [(10000, 10000)] ca ?_ | refine hclM [(10000, 10000)] [(10000, 10000)] cb ?_ | refine awp_seq ?_ | refine then_n ?_ | refine then_r ?_ | refine then_x ?_ | refine block_n ?_ | refine block_r ?_ | refine block_x ?_ | refine u_y ?_ | refine loop_r ?_ | refine loop_x ?_ | refine awp_region ?_ | refine awpL_nil ?_ | refine awpQL_nil ?_ | refine awp_block ?_ | refine awp_skip ?_ | refine awp_exit ?_ | refine awp_label ?_ | refine u_dT ?_ | refine u_d ?_ | refine u_l ?_ | refine u_o ?_ | refine u_q ?_ | refine u_lr ?_ | refine u_qr ?_ | refine u_ls ?_ | refine u_qs ?_ | refine u_t ?_ | refine u_f ?_ | refine v_s ?_ | refine v_o ?_ | refine v_on ?_ | refine v_og ?_ | refine v_q ?_ | refine v_sr ?_ | refine v_k ?_ | refine m_nil ?_)
                  all_goals exact ⟨by ((repeat (first | exact trivial | (refine ⟨?_, ?_⟩; (focus (first | rfl | (simp [lk, argsS, args0]; done) | (simp [lk, argsS, args0]; omega))))))), perm_of_sort rfl⟩
                · repeat (first | refine awp_seq ?_ | refine then_n ?_ | refine then_r ?_ | refine then_x ?_ | refine block_n ?_ | refine block_r ?_ | refine block_x ?_ | refine u_y ?_ | refine loop_r ?_ | refine loop_x ?_ | refine awp_region ?_ | refine awpL_nil ?_ | refine awpQL_nil ?_ | refine awp_block ?_ | refine awp_skip ?_ | refine awp_exit ?_ | refine awp_label ?_ | refine u_dT ?_ | refine u_d ?_ | refine u_l ?_ | refine u_o ?_ | refine u_q ?_ | refine u_lr ?_ | refine u_qr ?_ | refine u_ls ?_ | refine u_qs ?_ | refine u_t ?_ | refine u_f ?_ | refine v_s ?_ | refine v_o ?_ | refine v_on ?_ | refine v_og ?_ | refine v_q ?_ | refine v_sr ?_ | refine v_k ?_ | refine m_nil ?_)
                  exact meet_n (by ((repeat (first | exact trivial | (refine ⟨?_, ?_⟩; (focus (first | rfl | (simp [lk, argsS, args0]; done) | (simp [lk, argsS, args0]; omega)))))))) rfl
              · repeat (first | refine awp_seq ?_ | refine then_n ?_ | refine then_r ?_ | refine then_x ?_ | refine block_n ?_ | refine block_r ?_ | refine block_x ?_ | refine u_y ?_ | refine loop_r ?_ | refine loop_x ?_ | refine awp_region ?_ | refine awpL_nil ?_ | refine awpQL_nil ?_ | refine awp_block ?_ | refine awp_skip ?_ | refine awp_exit ?_ | refine awp_label ?_ | refine u_l ?_ | refine u_o ?_ | refine u_q ?_ | refine u_lr ?_ | refine u_qr ?_ | refine u_ls ?_ | refine u_qs ?_ | refine u_t ?_ | refine u_f ?_ | refine v_s ?_ | refine v_o ?_ | refine v_on ?_ | refine v_og ?_ | refine v_q ?_ | refine v_sr ?_ | refine v_k ?_ | refine m_nil ?_)
                refine u_mJ [(0, []), (5, [10000]), (8, [10000]), (10, [12])] (.tk [10000] [1, 2, 3] (.tk [] [4] (.fork 0 5 (.tk [] [5, 6, 7, 8, 9, 10] .done) (.tk [] [0, 6, 7, 8, 9, 10] .done))))
                  [(0, .ref 10000 0), (1, .d (.ptr (.agg [.int .i64 s, rows nx, ints lp]))), (9, .own 13), (10, .ref 10 0), (11, .d (.int .i64 (K - i))), (12, .ref 12 0)]
                  [(10, .box [.d (.int .i64 q.2.1.st), .d (.int .i64 q.2.1.life), .d (.int .i64 q.2.1.tk), .d (.int .i64 q.2.1.d.life), .d (ints q.2.1.d.ord), .d (.int .i64 q.2.1.d.sure), .d (ints q.2.1.d.bel), .d (.int .i64 q.2.1.sv.life), .d (ints q.2.1.sv.ord), .d (.int .i64 q.2.1.sv.sure), .d (ints q.2.1.sv.bel), .own 99]), (12, .box [.d (.int .i64 kd), .d (.int .i64 (upV code ((q.2.1.wire.map pkD).length : Nat) 8 r1))]), (13, .arr 35 2 (q.1.map deedD)), (99, .arr 72 4 (q.2.1.wire.map pkD)), (10000, .box [.d (u8s code), .d (.int .i64 (upS code ((q.2.1.wire.map pkD).length : Nat) 8 r1).pos), .d (.int .u64 (upS code ((q.2.1.wire.map pkD).length : Nat) 8 r1).sd)])] ?_ ?_
                · repeat' (first | refine m_fork ?_ ?_ | refine m_fork3 ?_ ?_ ?_ | refine hclM [(10000, 10000)] [(10000, 10000)] ca ?_ | refine hclM [(10000, 10000)] [(10000, 10000)] cb ?_ | refine awp_seq ?_ | refine then_n ?_ | refine then_r ?_ | refine then_x ?_ | refine block_n ?_ | refine block_r ?_ | refine block_x ?_ | refine u_y ?_ | refine loop_r ?_ | refine loop_x ?_ | refine awp_region ?_ | refine awpL_nil ?_ | refine awpQL_nil ?_ | refine awp_block ?_ | refine awp_skip ?_ | refine awp_exit ?_ | refine awp_label ?_ | refine u_dT ?_ | refine u_d ?_ | refine u_l ?_ | refine u_o ?_ | refine u_q ?_ | refine u_lr ?_ | refine u_qr ?_ | refine u_ls ?_ | refine u_qs ?_ | refine u_t ?_ | refine u_f ?_ | refine v_s ?_ | refine v_o ?_ | refine v_on ?_ | refine v_og ?_ | refine v_q ?_ | refine v_sr ?_ | refine v_k ?_ | refine m_nil ?_)
                  all_goals exact ⟨by ((repeat (first | exact trivial | (refine ⟨?_, ?_⟩; (focus (first | rfl | (simp [lk, argsS, args0]; done) | (simp [lk, argsS, args0]; omega))))))), perm_of_sort rfl⟩
                · repeat (first | refine awp_seq ?_ | refine then_n ?_ | refine then_r ?_ | refine then_x ?_ | refine block_n ?_ | refine block_r ?_ | refine block_x ?_ | refine u_y ?_ | refine loop_r ?_ | refine loop_x ?_ | refine awp_region ?_ | refine awpL_nil ?_ | refine awpQL_nil ?_ | refine awp_block ?_ | refine awp_skip ?_ | refine awp_exit ?_ | refine awp_label ?_ | refine u_dT ?_ | refine u_d ?_ | refine u_l ?_ | refine u_o ?_ | refine u_q ?_ | refine u_lr ?_ | refine u_qr ?_ | refine u_ls ?_ | refine u_qs ?_ | refine u_t ?_ | refine u_f ?_ | refine v_s ?_ | refine v_o ?_ | refine v_on ?_ | refine v_og ?_ | refine v_q ?_ | refine v_sr ?_ | refine v_k ?_ | refine m_nil ?_)
                  exact meet_n (by ((repeat (first | exact trivial | (refine ⟨?_, ?_⟩; (focus (first | rfl | (simp [lk, argsS, args0]; done) | (simp [lk, argsS, args0]; omega)))))))) rfl
              · repeat (first | refine awp_seq ?_ | refine then_n ?_ | refine then_r ?_ | refine then_x ?_ | refine block_n ?_ | refine block_r ?_ | refine block_x ?_ | refine u_y ?_ | refine loop_r ?_ | refine loop_x ?_ | refine awp_region ?_ | refine awpL_nil ?_ | refine awpQL_nil ?_ | refine awp_block ?_ | refine awp_skip ?_ | refine awp_exit ?_ | refine awp_label ?_ | refine u_l ?_ | refine u_o ?_ | refine u_q ?_ | refine u_lr ?_ | refine u_qr ?_ | refine u_ls ?_ | refine u_qs ?_ | refine u_t ?_ | refine u_f ?_ | refine v_s ?_ | refine v_o ?_ | refine v_on ?_ | refine v_og ?_ | refine v_q ?_ | refine v_sr ?_ | refine v_k ?_ | refine m_nil ?_)
                refine u_mJ [(0, []), (5, [10000]), (8, [10000]), (10, [12])] (.tk [10000] [1, 2, 3] (.tk [] [4] (.fork 0 5 (.tk [] [5, 6, 7, 8, 9, 10] .done) (.tk [] [0, 6, 7, 8, 9, 10] .done))))
                  [(0, .ref 10000 0), (1, .d (.ptr (.agg [.int .i64 s, rows nx, ints lp]))), (9, .own 13), (10, .ref 10 0), (11, .d (.int .i64 (K - i))), (12, .ref 12 0)]
                  [(10, .box [.d (.int .i64 q.2.1.st), .d (.int .i64 q.2.1.life), .d (.int .i64 q.2.1.tk), .d (.int .i64 q.2.1.d.life), .d (ints q.2.1.d.ord), .d (.int .i64 q.2.1.d.sure), .d (ints q.2.1.d.bel), .d (.int .i64 q.2.1.sv.life), .d (ints q.2.1.sv.ord), .d (.int .i64 q.2.1.sv.sure), .d (ints q.2.1.sv.bel), .own 99]), (12, .box [.d (.int .i64 kd), .d (.int .i64 (upV code ((q.2.1.wire.map pkD).length : Nat) 8 r1))]), (13, .arr 35 2 (q.1.map deedD)), (99, .arr 72 4 (q.2.1.wire.map pkD)), (10000, .box [.d (u8s code), .d (.int .i64 (upS code ((q.2.1.wire.map pkD).length : Nat) 8 r1).pos), .d (.int .u64 (upS code ((q.2.1.wire.map pkD).length : Nat) 8 r1).sd)])] ?_ ?_
                · repeat' (first | refine m_fork ?_ ?_ | refine m_fork3 ?_ ?_ ?_ | refine hclM [(10000, 10000)] [(10000, 10000)] ca ?_ | refine hclM [(10000, 10000)] [(10000, 10000)] cb ?_ | refine awp_seq ?_ | refine then_n ?_ | refine then_r ?_ | refine then_x ?_ | refine block_n ?_ | refine block_r ?_ | refine block_x ?_ | refine u_y ?_ | refine loop_r ?_ | refine loop_x ?_ | refine awp_region ?_ | refine awpL_nil ?_ | refine awpQL_nil ?_ | refine awp_block ?_ | refine awp_skip ?_ | refine awp_exit ?_ | refine awp_label ?_ | refine u_dT ?_ | refine u_d ?_ | refine u_l ?_ | refine u_o ?_ | refine u_q ?_ | refine u_lr ?_ | refine u_qr ?_ | refine u_ls ?_ | refine u_qs ?_ | refine u_t ?_ | refine u_f ?_ | refine v_s ?_ | refine v_o ?_ | refine v_on ?_ | refine v_og ?_ | refine v_q ?_ | refine v_sr ?_ | refine v_k ?_ | refine m_nil ?_)
                  all_goals exact ⟨by ((repeat (first | exact trivial | (refine ⟨?_, ?_⟩; (focus (first | rfl | (simp [lk, argsS, args0]; done) | (simp [lk, argsS, args0]; omega))))))), perm_of_sort rfl⟩
                · repeat (first | refine awp_seq ?_ | refine then_n ?_ | refine then_r ?_ | refine then_x ?_ | refine block_n ?_ | refine block_r ?_ | refine block_x ?_ | refine u_y ?_ | refine loop_r ?_ | refine loop_x ?_ | refine awp_region ?_ | refine awpL_nil ?_ | refine awpQL_nil ?_ | refine awp_block ?_ | refine awp_skip ?_ | refine awp_exit ?_ | refine awp_label ?_ | refine u_dT ?_ | refine u_d ?_ | refine u_l ?_ | refine u_o ?_ | refine u_q ?_ | refine u_lr ?_ | refine u_qr ?_ | refine u_ls ?_ | refine u_qs ?_ | refine u_t ?_ | refine u_f ?_ | refine v_s ?_ | refine v_o ?_ | refine v_on ?_ | refine v_og ?_ | refine v_q ?_ | refine v_sr ?_ | refine v_k ?_ | refine m_nil ?_)
                  exact meet_n (by ((repeat (first | exact trivial | (refine ⟨?_, ?_⟩; (focus (first | rfl | (simp [lk, argsS, args0]; done) | (simp [lk, argsS, args0]; omega)))))))) rfl
            · by_cases d7 : kd = 7
              · have : dd1 code s nx.length q.2.1 kd r1 = (if pickV code 3 (upS code s 12 r1) = 0 then (kd, upV code s 12 r1) else (3, 0), pickS code 3 (upS code s 12 r1)) := by unfold dd1; rw [if_neg d1, if_neg d2, if_neg d3, if_pos d7]
                rw [this]
                have d4 : ¬ kd = 4 := by omega
                have d5 : ¬ kd = 5 := by omega
                have d6 : ¬ kd = 6 := by omega
                have hun := upN_range (n := s) (m := 12) (r := r1) hb (by omega)
                have hpm := pick_range (s := r1) (n := 12) hb (by omega)
                have ca := hP _ _ 12 k1 (by omega) (by omega)
                have cb := hP (pickS code 12 r1) _ (upN code s 12 r1) (pick_ok k1) (by omega) (by omega)
                have cq := hQ (upS code s 12 r1) _ 3 (upS_ok k1) (by omega) (by omega)
                repeat (first | refine awp_seq ?_ | refine then_n ?_ | refine then_r ?_ | refine then_x ?_ | refine block_n ?_ | refine block_r ?_ | refine block_x ?_ | refine u_y ?_ | refine loop_r ?_ | refine loop_x ?_ | refine awp_region ?_ | refine awpL_nil ?_ | refine awpQL_nil ?_ | refine awp_block ?_ | refine awp_skip ?_ | refine awp_exit ?_ | refine awp_label ?_ | refine u_l ?_ | refine u_o ?_ | refine u_q ?_ | refine u_lr ?_ | refine u_qr ?_ | refine u_ls ?_ | refine u_qs ?_ | refine u_t ?_ | refine u_f ?_ | refine v_s ?_ | refine v_o ?_ | refine v_on ?_ | refine v_og ?_ | refine v_q ?_ | refine v_sr ?_ | refine v_k ?_ | refine m_nil ?_)
                refine u_mJ [(0, []), (7, [10000]), (10, [10000]), (12, [12])] (.tk [10000] [1, 2, 3, 4, 5] (.tk [] [6] (.fork 0 7 (.tk [] [7, 8, 9, 10, 11, 12] .done) (.tk [] [0, 8, 9, 10, 11, 12] .done))))
                  [(0, .ref 10000 0), (1, .d (.ptr (.agg [.int .i64 s, rows nx, ints lp]))), (9, .own 13), (10, .ref 10 0), (11, .d (.int .i64 (K - i))), (12, .ref 12 0)]
                  [(10, .box [.d (.int .i64 q.2.1.st), .d (.int .i64 q.2.1.life), .d (.int .i64 q.2.1.tk), .d (.int .i64 q.2.1.d.life), .d (ints q.2.1.d.ord), .d (.int .i64 q.2.1.d.sure), .d (ints q.2.1.d.bel), .d (.int .i64 q.2.1.sv.life), .d (ints q.2.1.sv.ord), .d (.int .i64 q.2.1.sv.sure), .d (ints q.2.1.sv.bel), .own 99]), (12, .box [.d (.int .i64 kd), .d (.int .i64 (upV code s 12 r1))]), (13, .arr 35 2 (q.1.map deedD)), (99, .arr 72 4 (q.2.1.wire.map pkD)), (10000, .box [.d (u8s code), .d (.int .i64 (upS code s 12 r1).pos), .d (.int .u64 (upS code s 12 r1).sd)])] ?_ ?_
                · repeat' (first | refine m_fork ?_ ?_ | refine m_fork3 ?_ ?_ ?_ | refine hclM [(10000, 10000)] [(10000, 10000)] ca ?_ | refine hclM [(10000, 10000)] [(10000, 10000)] cb ?_ | refine awp_seq ?_ | refine then_n ?_ | refine then_r ?_ | refine then_x ?_ | refine block_n ?_ | refine block_r ?_ | refine block_x ?_ | refine u_y ?_ | refine loop_r ?_ | refine loop_x ?_ | refine awp_region ?_ | refine awpL_nil ?_ | refine awpQL_nil ?_ | refine awp_block ?_ | refine awp_skip ?_ | refine awp_exit ?_ | refine awp_label ?_ | refine u_dT ?_ | refine u_d ?_ | refine u_l ?_ | refine u_o ?_ | refine u_q ?_ | refine u_lr ?_ | refine u_qr ?_ | refine u_ls ?_ | refine u_qs ?_ | refine u_t ?_ | refine u_f ?_ | refine v_s ?_ | refine v_o ?_ | refine v_on ?_ | refine v_og ?_ | refine v_q ?_ | refine v_sr ?_ | refine v_k ?_ | refine m_nil ?_)
                  all_goals exact ⟨by ((repeat (first | exact trivial | (refine ⟨?_, ?_⟩; (focus (first | rfl | (simp [lk, argsS, args0]; done) | (simp [lk, argsS, args0]; omega))))))), perm_of_sort rfl⟩
                · by_cases d8 : pickV code 3 (upS code s 12 r1) = 0
                  · rw [if_pos d8]
                    repeat (first | refine awp_seq ?_ | refine then_n ?_ | refine then_r ?_ | refine then_x ?_ | refine block_n ?_ | refine block_r ?_ | refine block_x ?_ | refine u_y ?_ | refine loop_r ?_ | refine loop_x ?_ | refine awp_region ?_ | refine awpL_nil ?_ | refine awpQL_nil ?_ | refine awp_block ?_ | refine awp_skip ?_ | refine awp_exit ?_ | refine awp_label ?_ | refine u_dT ?_ | refine u_d ?_ | refine u_l ?_ | refine u_o ?_ | refine u_q ?_ | refine u_lr ?_ | refine u_qr ?_ | refine u_ls ?_ | refine u_qs ?_ | refine u_t ?_ | refine u_f ?_ | refine v_s ?_ | refine v_o ?_ | refine v_on ?_ | refine v_og ?_ | refine v_q ?_ | refine v_sr ?_ | refine v_k ?_ | refine m_nil ?_)
                    refine hcl [(10000, 10000)] [(10000, 10000)] cq ?_
                    repeat (first | refine awp_seq ?_ | refine then_n ?_ | refine then_r ?_ | refine then_x ?_ | refine block_n ?_ | refine block_r ?_ | refine block_x ?_ | refine u_y ?_ | refine loop_r ?_ | refine loop_x ?_ | refine awp_region ?_ | refine awpL_nil ?_ | refine awpQL_nil ?_ | refine awp_block ?_ | refine awp_skip ?_ | refine awp_exit ?_ | refine awp_label ?_ | refine u_dT ?_ | refine u_d ?_ | refine u_l ?_ | refine u_o ?_ | refine u_q ?_ | refine u_lr ?_ | refine u_qr ?_ | refine u_ls ?_ | refine u_qs ?_ | refine u_t ?_ | refine u_f ?_ | refine v_s ?_ | refine v_o ?_ | refine v_on ?_ | refine v_og ?_ | refine v_q ?_ | refine v_sr ?_ | refine v_k ?_ | refine m_nil ?_)
                    exact meet_n (by ((repeat (first | exact trivial | (refine ⟨?_, ?_⟩; (focus (first | rfl | (simp [lk, argsS, args0]; done) | (simp [lk, argsS, args0]; omega)))))))) rfl
                  · rw [if_neg d8]
                    repeat (first | refine awp_seq ?_ | refine then_n ?_ | refine then_r ?_ | refine then_x ?_ | refine block_n ?_ | refine block_r ?_ | refine block_x ?_ | refine u_y ?_ | refine loop_r ?_ | refine loop_x ?_ | refine awp_region ?_ | refine awpL_nil ?_ | refine awpQL_nil ?_ | refine awp_block ?_ | refine awp_skip ?_ | refine awp_exit ?_ | refine awp_label ?_ | refine u_dT ?_ | refine u_d ?_ | refine u_l ?_ | refine u_o ?_ | refine u_q ?_ | refine u_lr ?_ | refine u_qr ?_ | refine u_ls ?_ | refine u_qs ?_ | refine u_t ?_ | refine u_f ?_ | refine v_s ?_ | refine v_o ?_ | refine v_on ?_ | refine v_og ?_ | refine v_q ?_ | refine v_sr ?_ | refine v_k ?_ | refine m_nil ?_)
                    refine hcl [(10000, 10000)] [(10000, 10000)] cq ?_
                    repeat (first | refine awp_seq ?_ | refine then_n ?_ | refine then_r ?_ | refine then_x ?_ | refine block_n ?_ | refine block_r ?_ | refine block_x ?_ | refine u_y ?_ | refine loop_r ?_ | refine loop_x ?_ | refine awp_region ?_ | refine awpL_nil ?_ | refine awpQL_nil ?_ | refine awp_block ?_ | refine awp_skip ?_ | refine awp_exit ?_ | refine awp_label ?_ | refine u_dT ?_ | refine u_d ?_ | refine u_l ?_ | refine u_o ?_ | refine u_q ?_ | refine u_lr ?_ | refine u_qr ?_ | refine u_ls ?_ | refine u_qs ?_ | refine u_t ?_ | refine u_f ?_ | refine v_s ?_ | refine v_o ?_ | refine v_on ?_ | refine v_og ?_ | refine v_q ?_ | refine v_sr ?_ | refine v_k ?_ | refine m_nil ?_)
                    exact meet_n (by ((repeat (first | exact trivial | (refine ⟨?_, ?_⟩; (focus (first | rfl | (simp [lk, argsS, args0]; done) | (simp [lk, argsS, args0]; omega)))))))) rfl
              · have : dd1 code s nx.length q.2.1 kd r1 = ((kd, 0), r1) := by unfold dd1; rw [if_neg d1, if_neg d2, if_neg d3, if_neg d7]
                rw [this]
                have d4 : ¬ kd = 4 := by omega
                have d5 : ¬ kd = 5 := by omega
                have d6 : ¬ kd = 6 := by omega
                repeat (first | refine awp_seq ?_ | refine then_n ?_ | refine then_r ?_ | refine then_x ?_ | refine block_n ?_ | refine block_r ?_ | refine block_x ?_ | refine u_y ?_ | refine loop_r ?_ | refine loop_x ?_ | refine awp_region ?_ | refine awpL_nil ?_ | refine awpQL_nil ?_ | refine awp_block ?_ | refine awp_skip ?_ | refine awp_exit ?_ | refine awp_label ?_ | refine u_dT ?_ | refine u_d ?_ | refine u_l ?_ | refine u_o ?_ | refine u_q ?_ | refine u_lr ?_ | refine u_qr ?_ | refine u_ls ?_ | refine u_qs ?_ | refine u_t ?_ | refine u_f ?_ | refine v_s ?_ | refine v_o ?_ | refine v_on ?_ | refine v_og ?_ | refine v_q ?_ | refine v_sr ?_ | refine v_k ?_ | refine m_nil ?_)
                exact meet_n (by ((repeat (first | exact trivial | (refine ⟨?_, ?_⟩; (focus (first | rfl | (simp [lk, argsS, args0]; done) | (simp [lk, argsS, args0]; omega)))))))) rfl
      · unfold lnB wrC
        generalize dd1 code s nx.length q.2.1 kd r1 = e at *
        generalize doF s nx lp q.2.1 e.1.1 e.1.2 = n' at *
        unfold deedD at c9
        repeat (first | refine awp_seq ?_ | refine then_n ?_ | refine then_r ?_ | refine then_x ?_ | refine block_n ?_ | refine block_r ?_ | refine block_x ?_ | refine u_y ?_ | refine loop_r ?_ | refine loop_x ?_ | refine awp_region ?_ | refine awpL_nil ?_ | refine awpQL_nil ?_ | refine awp_block ?_ | refine awp_skip ?_ | refine awp_exit ?_ | refine awp_label ?_ | refine u_dT ?_ | refine u_d ?_ | refine u_l ?_ | refine u_o ?_ | refine u_q ?_ | refine u_lr ?_ | refine u_qr ?_ | refine u_ls ?_ | refine u_qs ?_ | refine u_t ?_ | refine u_f ?_ | refine v_s ?_ | refine v_o ?_ | refine v_on ?_ | refine v_og ?_ | refine v_q ?_ | refine v_sr ?_ | refine v_k ?_ | refine m_nil ?_)
        refine hcl [(10, 10000), (99, 20000)] [(10000, 10), (20000, 99)] c9 ?_
        repeat (first | refine awp_seq ?_ | refine then_n ?_ | refine then_r ?_ | refine then_x ?_ | refine block_n ?_ | refine block_r ?_ | refine block_x ?_ | refine u_y ?_ | refine loop_r ?_ | refine loop_x ?_ | refine awpL_nil ?_ | refine awpQL_nil ?_ | refine awp_block ?_ | refine awp_skip ?_ | refine awp_exit ?_ | refine awp_label ?_ | refine u_dT ?_ | refine u_d ?_ | refine u_l ?_ | refine u_o ?_ | refine u_q ?_ | refine u_lr ?_ | refine u_qr ?_ | refine u_ls ?_ | refine u_qs ?_ | refine u_t ?_ | refine u_f ?_ | refine v_s ?_ | refine v_o ?_ | refine v_on ?_ | refine v_og ?_ | refine v_q ?_ | refine v_sr ?_ | refine v_k ?_ | refine m_nil ?_)
        refine awp_freezeB 12 rfl rfl rfl ?_
        refine awp_perm _ rfl ?_
        repeat (first | refine awp_seq ?_ | refine then_n ?_ | refine then_r ?_ | refine then_x ?_ | refine block_n ?_ | refine block_r ?_ | refine block_x ?_ | refine u_y ?_ | refine loop_r ?_ | refine loop_x ?_ | refine awp_region ?_ | refine awpL_nil ?_ | refine awpQL_nil ?_ | refine awp_block ?_ | refine awp_skip ?_ | refine awp_exit ?_ | refine awp_label ?_ | refine u_dT ?_ | refine u_d ?_ | refine u_l ?_ | refine u_o ?_ | refine u_q ?_ | refine u_lr ?_ | refine u_qr ?_ | refine u_ls ?_ | refine u_qs ?_ | refine u_t ?_ | refine u_f ?_ | refine v_s ?_ | refine v_o ?_ | refine v_on ?_ | refine v_og ?_ | refine v_q ?_ | refine v_sr ?_ | refine v_k ?_ | refine m_nil ?_)
        refine loop_n (i + 1) (by omega) ?_ ?_ (by omega)
        · rw [show K - ((i + 1 : Nat) : Int) = K - i - 1 by omega]
          ((repeat (first | exact trivial | (refine ⟨?_, ?_⟩; (focus (first | rfl | (simp [lk, argsS, args0]; done) | (simp [lk, argsS, args0]; omega)))))))
        · rw [hst]; simp only [List.map_append]; (as_aux_lemma => kernel_rfl)
    · have hiK : i = K.toNat := by omega
      subst hiK
      repeat (first | refine awp_seq ?_ | refine then_n ?_ | refine then_r ?_ | refine then_x ?_ | refine block_n ?_ | refine block_r ?_ | refine block_x ?_ | refine u_y ?_ | refine loop_r ?_ | refine loop_x ?_ | refine awp_region ?_ | refine awpL_nil ?_ | refine awpQL_nil ?_ | refine awp_block ?_ | refine awp_skip ?_ | refine awp_exit ?_ | refine awp_label ?_ | refine u_dT ?_ | refine u_d ?_ | refine u_l ?_ | refine u_o ?_ | refine u_q ?_ | refine u_lr ?_ | refine u_qr ?_ | refine u_ls ?_ | refine u_qs ?_ | refine u_t ?_ | refine u_f ?_ | refine v_s ?_ | refine v_o ?_ | refine v_on ?_ | refine v_og ?_ | refine v_q ?_ | refine v_sr ?_ | refine v_k ?_ | refine m_nil ?_)
      (refine awp_ret ?_; (repeat (first | refine then_r ?_ | refine block_r ?_ | refine loop_r ?_)); refine u_rH [(10000, 10000), (13, 30000)] ?_ ?_)
      · rfl
      · rfl

/-- The deeds that are drawn. -/
def dsV (code : List Int) (s st : Int) (nx : List (List Int)) (lp : List Int) : List (Int × Int) := (ddsK code s nx lp (ln0 s st) (pickS code 37 ⟨0, 0⟩) (pickV code 37 ⟨0, 0⟩).toNat).1
theorem spec_A2DeedsH {code : List Int} {s st : Int} {nx : List (List Int)} {lp : List Int} (hb : BytesOk code) (hv : litOk s nx lp = true) (hst : 0 ≤ st ∧ st < s) :
    HC Try.prog 9 [.d (u8s code), .d (ltD s nx lp), .d (.int .i64 st)] [] (.own 30000) [(30000, .arr 35 2 ((dsV code s st nx lp).map deedD))] := by
  have c0 := spec_From (code := code)
  have c1 := spec_l08Deeds (r := ⟨0, 0⟩) (j := 0) (most := 36) hb hv hst (by omega) ⟨Nat.le_refl _, by simp⟩ (by omega)
  unfold dsV
  rw [show (36 : Int) + 1 = 37 from rfl] at c1
  generalize ddsK code s nx lp (ln0 s st) (pickS code 37 ⟨0, 0⟩) (pickV code 37 ⟨0, 0⟩).toNat = q at *
  unfold ltD srcB at *
  refine hc_intro tabIs _ Try.func9 rfl rfl Try.ntmps9 rfl rfl rfl ?_ fun w0 ok0 XM XA anc => ?_
  · exact likeIn_nil
  repeat (first | refine awp_seq ?_ | refine then_n ?_ | refine then_r ?_ | refine then_x ?_ | refine block_n ?_ | refine block_r ?_ | refine block_x ?_ | refine u_y ?_ | refine loop_r ?_ | refine loop_x ?_ | refine awp_region ?_ | refine awpL_nil ?_ | refine awpQL_nil ?_ | refine awp_block ?_ | refine awp_skip ?_ | refine awp_exit ?_ | refine awp_label ?_ | refine u_dT ?_ | refine u_d ?_ | refine u_l ?_ | refine u_o ?_ | refine u_q ?_ | refine u_lr ?_ | refine u_qr ?_ | refine u_ls ?_ | refine u_qs ?_ | refine u_t ?_ | refine u_f ?_ | refine v_s ?_ | refine v_o ?_ | refine v_on ?_ | refine v_og ?_ | refine v_q ?_ | refine v_sr ?_ | refine v_k ?_ | refine m_nil ?_)
  refine hcl [] [(30000, 100)] c0 ?_
  repeat (first | refine awp_seq ?_ | refine then_n ?_ | refine then_r ?_ | refine then_x ?_ | refine block_n ?_ | refine block_r ?_ | refine block_x ?_ | refine u_y ?_ | refine loop_r ?_ | refine loop_x ?_ | refine awp_region ?_ | refine awpL_nil ?_ | refine awpQL_nil ?_ | refine awp_block ?_ | refine awp_skip ?_ | refine awp_exit ?_ | refine awp_label ?_ | refine u_dT ?_ | refine u_d ?_ | refine u_l ?_ | refine u_o ?_ | refine u_q ?_ | refine u_lr ?_ | refine u_qr ?_ | refine u_ls ?_ | refine u_qs ?_ | refine u_t ?_ | refine u_f ?_ | refine v_s ?_ | refine v_o ?_ | refine v_on ?_ | refine v_og ?_ | refine v_q ?_ | refine v_sr ?_ | refine v_k ?_ | refine m_nil ?_)
  refine hcl [(100, 10000)] [(10000, 100), (30000, 201)] c1 ?_
  repeat (first | refine awp_seq ?_ | refine then_n ?_ | refine then_r ?_ | refine then_x ?_ | refine block_n ?_ | refine block_r ?_ | refine block_x ?_ | refine u_y ?_ | refine loop_r ?_ | refine loop_x ?_ | refine awp_region ?_ | refine awpL_nil ?_ | refine awpQL_nil ?_ | refine awp_block ?_ | refine awp_skip ?_ | refine awp_exit ?_ | refine awp_label ?_ | refine u_dT ?_ | refine u_d ?_ | refine u_l ?_ | refine u_o ?_ | refine u_q ?_ | refine u_lr ?_ | refine u_qr ?_ | refine u_ls ?_ | refine u_qs ?_ | refine u_t ?_ | refine u_f ?_ | refine v_s ?_ | refine v_o ?_ | refine v_on ?_ | refine v_og ?_ | refine v_q ?_ | refine v_sr ?_ | refine v_k ?_ | refine m_nil ?_)
  (refine awp_ret ?_; (repeat (first | refine then_r ?_ | refine block_r ?_ | refine loop_r ?_)); refine u_rH [(201, 30000)] ?_ ?_)
  · rfl
  · rfl
theorem dsV_ok {code : List Int} {s st : Int} {nx : List (List Int)} {lp : List Int} (hb : BytesOk code) (hv : litOk s nx lp = true) (hst : 0 ≤ st ∧ st < s) : (dsV code s st nx lp).length ≤ 36 ∧ ∀ p ∈ dsV code s st nx lp, vdeed p.1 p.2 = true := by
  have v := lv_of hv
  have hs := v.s1
  have hn1 := v.n1
  have hp := pick_range (s := ⟨0, 0⟩) (n := 37) hb (by omega)
  obtain ⟨h1, h2, _⟩ := ddsK_ok (r0 := pickS code 37 ⟨0, 0⟩) (j0 := 2) hb hv (by omega) (by omega) (ln0_ok (nx := nx) hst) (pick_ok (k := 0) ⟨Nat.le_refl _, by simp⟩) (pickV code 37 ⟨0, 0⟩).toNat
  exact ⟨by unfold dsV; omega, h2⟩
end Go.Proofs.Ytampglcgipefnaa
