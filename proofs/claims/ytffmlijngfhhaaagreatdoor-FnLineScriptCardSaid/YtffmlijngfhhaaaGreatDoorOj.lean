/- What is told of a line: in the reference and in the program. No condition. -/
import Derived.Test.YtffmlijngfhhaaaGreatDoorOi
namespace Go.Proofs.YtffmlijngfhhaaaGreatDoor
open Go
attribute [local irreducible] awp awpL awpQL awpQ awpM pWalk Qt AC thenQ blockQ loopQ OpTo
set_option linter.unusedVariables false
set_option linter.unusedSimpArgs false
set_option maxHeartbeats 2000000
attribute [local irreducible] HC
theorem bits_ext {a b : List Int} (h : ∀ x, x ∈ a ↔ x ∈ b) : bitsL 0 a = bitsL 0 b := Nat.eq_of_testBit_eq fun i => by
  rw [testBit_bitsL, testBit_bitsL]
  congr 1
  rw [Bool.eq_iff_iff, List.any_eq_true, List.any_eq_true]
  exact ⟨fun ⟨x, hx, e⟩ => ⟨x, (h x).1 hx, e⟩, fun ⟨x, hx, e⟩ => ⟨x, (h x).2 hx, e⟩⟩
theorem mem_foldl_ins : ∀ (L out : List Int) (y : Int), y ∈ L.foldl insL out ↔ y ∈ out \/ y ∈ L
  | [], out, y => by simp
  | x :: L, out, y => by
    rw [List.foldl_cons, mem_foldl_ins L, mem_insL, List.mem_cons]
    constructor
    . rintro ((h | h) | h)
      . exact .inr (.inl h)
      . exact .inl h
      . exact .inr (.inr h)
    . rintro (h | h | h)
      . exact .inl (.inr h)
      . exact .inl (.inl h)
      . exact .inr h
theorem ris_foldl_ins : ∀ (L out : List Int), out.Pairwise (· < ·) -> (L.foldl insL out).Pairwise (· < ·)
  | [], _, h => h
  | x :: L, out, h => ris_foldl_ins L _ (insL_ris h)
theorem bits_or (L out : List Int) : bitsL 0 (L.foldl insL out) = bitsL 0 out ||| bitsL 0 L := Nat.eq_of_testBit_eq fun i => by
  rw [Nat.testBit_or, testBit_bitsL, testBit_bitsL, testBit_bitsL]
  simp only [Nat.zero_testBit, Bool.false_or]
  rw [Bool.eq_iff_iff, Bool.or_eq_true, List.any_eq_true, List.any_eq_true, List.any_eq_true]
  constructor
  . rintro ⟨x, hx, e⟩
    rcases (mem_foldl_ins L out x).1 hx with h | h
    . exact .inl ⟨x, h, e⟩
    . exact .inr ⟨x, h, e⟩
  . rintro (⟨x, h, e⟩ | ⟨x, h, e⟩)
    . exact ⟨x, (mem_foldl_ins L out x).2 (.inl h), e⟩
    . exact ⟨x, (mem_foldl_ins L out x).2 (.inr h), e⟩
def tN (nx : List (List Int)) : List Int -> List Int -> List Int -> List Int × List Int
  | now, out, [] => (now, out)
  | now, out, x :: w => tN nx (imgL nx now [x]) ((imgL nx now [x]).foldl insL out) w
theorem tN_toldF {nx : List (List Int)} : ∀ (w now out : List Int), toldF nx now out w = (tN nx now out w).2
  | [], _, _ => rfl
  | x :: w, now, out => tN_toldF w _ _
theorem tN_snoc {nx : List (List Int)} {x : Int} : ∀ (w now out : List Int), tN nx now out (w ++ [x]) = (imgL nx (tN nx now out w).1 [x], (imgL nx (tN nx now out w).1 [x]).foldl insL (tN nx now out w).2)
  | [], _, _ => rfl
  | y :: w, now, out => by simp only [List.cons_append, tN]; exact tN_snoc w _ _
theorem tN_ok {s : Int} {nx : List (List Int)} (hx : Tbl s s nx) : ∀ (w now out : List Int), (∀ l ∈ w, 0 <= l /\ l < nx.length) -> (∀ q ∈ now, 0 <= q /\ q < s) -> now.Pairwise (· < ·) -> (∀ q ∈ out, 0 <= q /\ q < s) -> out.Pairwise (· < ·) ->
    (∀ q ∈ (tN nx now out w).1, 0 <= q /\ q < s) /\ (tN nx now out w).1.Pairwise (· < ·) /\ (∀ q ∈ (tN nx now out w).2, 0 <= q /\ q < s) /\ (tN nx now out w).2.Pairwise (· < ·)
  | [], _, _, _, h1, h2, h3, h4 => ⟨h1, h2, h3, h4⟩
  | x :: w, now, out, hw, h1, h2, h3, h4 => by
    obtain ⟨i1, i2⟩ := imgL_spec nx now [x]
    have hm : ∀ q ∈ imgL nx now [x], 0 <= q /\ q < s := fun q hq => by
      obtain ⟨q0, hq0, rfl⟩ := (i2 q).1 hq
      exact runS_range hx [x] (h1 q0 hq0) fun l hl => by simp at hl; subst hl; exact hw _ (List.mem_cons_self ..)
    exact tN_ok hx w _ _ (fun l hl => hw l (List.mem_cons_of_mem _ hl)) hm i1 (fun q hq => by
      rcases (mem_foldl_ins _ _ q).1 hq with h | h
      . exact h3 q h
      . exact hm q h) (ris_foldl_ins _ _ h4)
theorem ris_le10 {s : Int} {l : List Int} (hs : s <= 10) (h1 : ∀ q ∈ l, 0 <= q /\ q < s) (h2 : l.Pairwise (· < ·)) : l.length <= 10 := by
  have := incr_len h2 0 fun q hq => by have := h1 q hq; omega
  omega
def wkL (n : Ln) (s : Int) (nx : List (List Int)) (lp : List Int) : List D := lnL n ++ [.int .i64 s, rows nx, ints lp]
theorem impl_toldH {s : Int} {nx : List (List Int)} {lp : List Int} {n : Ln} (v : LV s nx lp) (h : DskOk s nx n.d) :
    HC Tryz.prog 104 [.d (.ptr (.agg (wkL n s nx lp)))] [] (.own 30000) [(30000, .arr 2 1 ((toldD nx n.d).map (.int .i64)))] := by
  have hs := v.s1
  have hbl := h.bel_len (by omega)
  have hol := h.len
  have hsu := h.sure
  have hb64 : ∀ q ∈ n.d.bel, 0 <= q /\ q < 64 := fun q hq => by have := h.bel q hq; omega
  have e1 := impl_flockOf hb64 (by omega)
  have hodl : (n.d.ord.map (D.int .i64)).length = n.d.ord.length := by simp
  have hel := elsOk_ints n.d.ord
  have key : ∀ m : Nat, n.d.sure.toNat + m <= n.d.ord.length -> _ := fun m hm => tN_ok v.nx ((n.d.ord.drop n.d.sure.toNat).take m) n.d.bel n.d.bel (fun l hl => h.ord l (List.mem_of_mem_drop (List.mem_of_mem_take hl))) h.bel h.ris h.bel h.ris
  unfold toldD
  rw [tN_toldF]
  unfold wkL lnL
  refine hc_intro tabIs _ Tryz.func104 rfl rfl Tryz.ntmps104 rfl rfl rfl ?_ fun w0 ok0 XM XA anc he0 hX0 => ?_
  . exact likeIn_nil
  have hdm : (n.d.ord.map (D.int .i64)).drop n.d.sure.toNat = (n.d.ord.drop n.d.sure.toNat).map (.int .i64) := by rw [List.map_drop]
  have hdl : ((n.d.ord.drop n.d.sure.toNat).length : Int) = n.d.ord.length - n.d.sure := by rw [List.length_drop]; omega
  repeat (first | refine zc ?_ | ((first | apply x_l | apply x_q | apply x_lr | apply x_qr); (focus (first | (apply qa_slice_l; (iterate 8 (focus (first | exact rfl | (first | assumption | omega | (simp; omega) | (simp; done) | rfl))))))); exact rfl) | refine zk (e := by exact e1) (n := ?_) | (apply v_x; (iterate 2 exact rfl); (focus (intro ok0 nw hle; (first | (apply qa_slice_l; (iterate 8 (focus (first | exact rfl | (first | assumption | omega | (simp; omega) | (simp; done) | rfl)))))))); (iterate 2 exact rfl)) | refine zv ?_)
  refine awp_loop (fun m : Nat => n.d.sure.toNat + m <= n.d.ord.length) (fun m => [(0, .d (.ptr (.agg (wkL n s nx lp)))), (3, .d (.int .u64 (bitsL 0 (tN nx n.d.bel n.d.bel ((n.d.ord.drop n.d.sure.toNat).take m)).1 : Nat))), (4, .d (.int .u64 (bitsL 0 (tN nx n.d.bel n.d.bel ((n.d.ord.drop n.d.sure.toNat).take m)).2 : Nat))), (27, .d (.lst ((n.d.ord.map (D.int .i64)).drop n.d.sure.toNat))), (28, .d (.int .i64 ((n.d.ord.map (D.int .i64)).drop n.d.sure.toNat).length)), (29, .d (.int .i64 m))])
    (fun _ => []) (fun m => n.d.ord.length - m) 0 (by omega) ?_ rfl ?_
  . exact zs
  . intro m hm
    obtain ⟨k1, k2, k3, k4⟩ := key m hm
    have hdml : ((n.d.ord.map (D.int .i64)).drop n.d.sure.toNat).length = n.d.ord.length - n.d.sure.toNat := by simp
    by_cases hlt : n.d.sure.toNat + m < n.d.ord.length
    . have hdl2 : m < (n.d.ord.drop n.d.sure.toNat).length := by rw [List.length_drop]; omega
      have hsn := tN_snoc (nx := nx) (x := (n.d.ord.drop n.d.sure.toNat)[m]) ((n.d.ord.drop n.d.sure.toNat).take m) n.d.bel n.d.bel
      rw [<- List.take_succ_eq_append_getElem hdl2] at hsn
      have hxr : 0 <= (n.d.ord.drop n.d.sure.toNat)[m] /\ (n.d.ord.drop n.d.sure.toNat)[m] < nx.length := h.ord _ (List.mem_of_mem_drop (List.getElem_mem hdl2))
      have hx : ((n.d.ord.map (D.int .i64)).drop n.d.sure.toNat)[(m : Int).toNat]? = some (.int .i64 (n.d.ord.drop n.d.sure.toNat)[m]) := by
        rw [hdm, List.getElem?_map, Int.toNat_natCast, List.getElem?_eq_getElem hdl2]
        rfl
      generalize (n.d.ord.drop n.d.sure.toNat)[m] = x at *
      generalize tN nx n.d.bel n.d.bel ((n.d.ord.drop n.d.sure.toNat).take m) = T at *
      have g1 : ∀ q ∈ T.1, 0 <= q /\ q < 64 := fun q hq => by have := k1 q hq; omega
      have g3 : ∀ q ∈ T.2, 0 <= q /\ q < 64 := fun q hq => by have := k3 q hq; omega
      have b1 := bitsL_lt T.1 0 (by omega) fun q hq => by have := g1 q hq; omega
      have b3 := bitsL_lt T.2 0 (by omega) fun q hq => by have := g3 q hq; omega
      have hset : setN (bitsL 0 T.1) = T.1 := setN_bits g1 k2
      have e2 := impl_step (x := x) v b1 (by rw [hset]; exact k1) hxr
      obtain ⟨i1, i2⟩ := imgL_spec nx T.1 [x]
      have hbi : bitsL 0 ((setN (bitsL 0 T.1)).map fun q => at2 nx x q) = bitsL 0 (imgL nx T.1 [x]) := by
        rw [hset]
        refine bits_ext fun y => ?_
        rw [i2, List.mem_map]
        constructor
        . rintro ⟨q, hq, rfl⟩; exact ⟨q, hq, rfl⟩
        . rintro ⟨q, hq, rfl⟩; exact ⟨q, hq, rfl⟩
      rw [hbi] at e2
      have hI : ∀ q ∈ imgL nx T.1 [x], 0 <= q /\ q < s := fun q hq => by
        obtain ⟨q0, hq0, rfl⟩ := (i2 q).1 hq
        exact runS_range v.nx [x] (k1 q0 hq0) fun l hl => by simp at hl; subst hl; exact hxr
      have b5 := bitsL_lt (imgL nx T.1 [x]) 0 (by omega) fun q hq => by have := hI q hq; omega
      have hor := bits_or (imgL nx T.1 [x]) T.2
      generalize imgL nx T.1 [x] = I at *
      have r1 : (0 : Int) <= (bitsL 0 T.2 : Nat) /\ ((bitsL 0 T.2 : Nat) : Int) < 18446744073709551616 := by omega
      have r2 : (0 : Int) <= (bitsL 0 I : Nat) /\ ((bitsL 0 I : Nat) : Int) < 18446744073709551616 := by omega
      unfold wkL lnL
      repeat (first | refine zc ?_ | ((first | apply x_l | apply x_q | apply x_lr | apply x_qr); (focus (first | (apply qb_or; (iterate 4 (focus (first | exact rfl | (first | assumption | omega | (simp; omega) | (simp; done) | rfl))))))); exact rfl) | refine zk (e := by exact e2) (n := ?_) | (apply v_x; (iterate 2 exact rfl); (focus (intro ok0 nw hle; (first | (apply qb_or; (iterate 4 (focus (first | exact rfl | (first | assumption | omega | (simp; omega) | (simp; done) | rfl)))))))); (iterate 2 exact rfl)) | refine zv ?_)
      refine loop_n (m + 1) (by omega) ?_ rfl (by omega)
      refine ⟨rfl, ?_, ?_, rfl, rfl, ?_, trivial⟩
      . rw [hsn]; rfl
      . rw [hsn]
        show SV.d (.int .u64 _) = SV.d (.int .u64 _)
        rw [hor, <- bor_eq]
      . simp [lk]
    . have : n.d.sure.toNat + m = n.d.ord.length := by omega
      have hall : (n.d.ord.drop n.d.sure.toNat).take m = n.d.ord.drop n.d.sure.toNat := List.take_of_length_le (by rw [List.length_drop]; omega)
      rw [hall] at k1 k2 k3 k4 ⊢
      generalize tN nx n.d.bel n.d.bel (n.d.ord.drop n.d.sure.toNat) = T at *
      have g3 : ∀ q ∈ T.2, 0 <= q /\ q < 64 := fun q hq => by have := k3 q hq; omega
      have b3 := bitsL_lt T.2 0 (by omega) fun q hq => by have := g3 q hq; omega
      have e3 := impl_setH b3
      rw [setN_bits g3 k4] at e3
      repeat (first | refine zc ?_ | refine zv ?_)
      refine hcl [] [(30000, 500)] e3 ?_
      repeat (first | refine zc ?_ | refine zv ?_)
      (refine zb ?_; refine u_rH [(500, 30000)] ?_ ?_)
      . rfl
      . rfl
def doneF : List Int -> Nat
  | [] => 0
  | c :: cs => (if c = 0 then 1 else 0) + doneF cs
theorem doneF_append : ∀ (a b : List Int), doneF (a ++ b) = doneF a + doneF b
  | [], b => by simp [doneF]
  | c :: a, b => by simp only [List.cons_append, doneF]; rw [doneF_append a b]; omega
theorem doneF_le : ∀ a : List Int, doneF a <= a.length
  | [] => Nat.le_refl _
  | c :: a => by have := doneF_le a; simp only [doneF, List.length_cons]; split <;> omega
theorem impl_afterH {s st : Int} {nx : List (List Int)} {lp : List Int} {ds : List (Int × Int)} (hv : litOk s nx lp = true) (hst : 0 <= st /\ st < s) (hd : ∀ p ∈ ds, ddOk p) (h3 : ds.length <= 400) :
    HC Tryz.prog 41 [.d (ltD s nx lp), .d (.int .i64 st), .d (deedsD ds)] [] (.tup [.ref 30000 0, .d (.int .i64 (doneF (codesF s nx lp (ln0 s st) ds) : Nat))]) [(30000, wkB (.own 30001) (runF s nx lp (ln0 s st) ds) s nx lp), (30001, wrC (runF s nx lp (ln0 s st) ds).wire)] := by
  have hle : (ds.map deedD).length = ds.length := by simp
  have v := lv_of hv
  have hs := v.s1
  have c0 := impl_newWorksH (s := s) (st := st) (nx := nx) (lp := lp) (by omega)
  unfold ltD deedsD at *
  refine hc_intro tabIs _ Tryz.func41 rfl rfl Tryz.ntmps41 rfl rfl rfl ?_ fun w0 ok0 XM XA anc he0 hX0 => ?_
  . exact likeIn_nil
  repeat (first | refine zc ?_ | refine zv ?_)
  refine hcl [] [(30000, 600)] c0 ?_
  repeat (first | refine zcr ?_ | refine zv ?_)
  refine awp_cellLe 600 4 rfl rfl .nil ?_
  refine awp_nilCell 600 11 99 93 4 rfl rfl rfl rfl rfl ?_
  repeat (first | refine zc ?_ | refine zv ?_)
  refine awp_permTo [(600, wkB (.own 99) (ln0 s st) s nx lp), (99, wrC [])] rfl ?_
  refine awp_loop (fun k : Nat => k <= ds.length) (fun k => [(8, .ref 600 0), (9, .d (.int .i64 (doneF (codesF s nx lp (ln0 s st) (ds.take k)) : Nat))), (15, .d (.lst (ds.map deedD))), (16, .d (.int .i64 (ds.map deedD).length)), (17, .d (.int .i64 k))])
    (fun k => [(600, wkB (.own 99) (runF s nx lp (ln0 s st) (ds.take k)) s nx lp), (99, wrC (runF s nx lp (ln0 s st) (ds.take k)).wire)]) (fun k => ds.length - k) 0 (by omega) ?_ rfl ?_
  . exact zs
  . intro k hk
    have hcl0 := codesF_len (s := s) (nx := nx) (lp := lp) (ds.take k) (ln0 s st)
    rw [List.length_take] at hcl0
    have hdo := doneF_le (codesF s nx lp (ln0 s st) (ds.take k))
    by_cases hlt : k < ds.length
    . have hx := el_deed hlt
      have hln := runF_ok hv (ds.take k) (ln0_ok (nx := nx) hst) fun p hp => hd p (List.mem_of_mem_take hp)
      have c1 := impl_doH hv hln (by rw [List.length_take]; omega) (c := ds[k].1) (a := ds[k].2) (hd _ (List.getElem_mem hlt))
      have t1 := runF_take (s := s) (nx := nx) (lp := lp) (n := ln0 s st) hlt
      have t2 := codesF_take (s := s) (nx := nx) (lp := lp) (n := ln0 s st) hlt
      generalize runF s nx lp (ln0 s st) (ds.take k) = n at *
      generalize codesF s nx lp (ln0 s st) (ds.take k) = cs at *
      generalize doF s nx lp n ds[k].1 ds[k].2 = r at *
      have t3 : doneF (codesF s nx lp (ln0 s st) (ds.take (k + 1))) = doneF cs + if r.2 = 0 then 1 else 0 := by
        rw [t2, doneF_append]
        simp [doneF]
      generalize ds[k] = dk at *
      generalize doneF cs = dn at *
      unfold deedD at c1
      repeat (first | refine zcr ?_ | refine zv ?_)
      refine awp_region ?_
      repeat (first | refine zcr ?_ | refine zv ?_)
      refine awp_region ?_
      repeat (first | refine zcr ?_ | refine zv ?_)
      refine awp_freezeB 11 rfl rfl rfl ?_
      by_cases h0 : r.2 = 0
      . rw [if_pos h0] at t3
        repeat (first | refine zc ?_ | refine zv ?_)
        refine hcl [(600, 10000), (99, 20000)] [(10000, 600), (20000, 99)] c1 ?_
        repeat (first | refine zc ?_ | refine zv ?_)
        refine loop_n (k + 1) (by omega) ?_ ?_ (by omega)
        . rw [t3, Int.natCast_add]; exact zs
        . rw [t1]; rfl
      . rw [if_neg h0, Nat.add_zero] at t3
        repeat (first | refine zc ?_ | refine zv ?_)
        refine hcl [(600, 10000), (99, 20000)] [(10000, 600), (20000, 99)] c1 ?_
        repeat (first | refine zc ?_ | refine zv ?_)
        refine loop_n (k + 1) (by omega) ?_ ?_ (by omega)
        . rw [t3]; exact zs
        . rw [t1]; rfl
    . have : k = ds.length := by omega
      subst this
      repeat (first | refine zc ?_ | refine zv ?_)
      have htl : ds.take ds.length = ds := List.take_length
      (refine zb ?_; refine u_rH [(600, 30000), (99, 30001)] ?_ ?_)
      . rw [htl]; rfl
      . rw [htl]; rfl
end Go.Proofs.YtffmlijngfhhaaaGreatDoor
namespace Go.Proofs.YtffmlijngfhhaaaGreatDoor
open Go
attribute [local irreducible] awp awpL awpQL awpQ awpM pWalk Qt AC thenQ blockQ loopQ OpTo
set_option linter.unusedVariables false
set_option linter.unusedSimpArgs false
set_option maxHeartbeats 2000000
attribute [local irreducible] HC
theorem spec_l08ToldR {s : Int} {nx : List (List Int)} {lp : List Int} {n : Ln} (v : LV s nx lp) (h : DskOk s nx n.d) :
    HC Tryz.prog 92 [.d (.ptr (ltD s nx lp)), .ref 10000 3] [(10000, lnB (.own 20000) n), (20000, wrC n.wire)] (.d (ints (toldD nx n.d))) [(10000, lnB (.own 20000) n), (20000, wrC n.wire)] := by
  have hs := v.s1
  have hbl := h.bel_len (by omega)
  have hol := h.len
  have hsu := h.sure
  have e1 := spec_l00Own (ns := n.d.bel) (by omega)
  have hodl : (n.d.ord.map (D.int .i64)).length = n.d.ord.length := by simp
  have hel := elsOk_ints n.d.ord
  have key : ∀ m : Nat, n.d.sure.toNat + m <= n.d.ord.length -> _ := fun m hm => tN_ok v.nx ((n.d.ord.drop n.d.sure.toNat).take m) n.d.bel n.d.bel (fun l hl => h.ord l (List.mem_of_mem_drop (List.mem_of_mem_take hl))) h.bel h.ris h.bel h.ris
  unfold toldD
  rw [tN_toldF]
  unfold ltD lnB wrC
  refine hc_intro tabIs _ Tryz.func92 rfl rfl Tryz.ntmps92 rfl rfl rfl ?_ fun w0 ok0 XM XA anc he0 hX0 => ?_
  . exact likeIn_cons rfl rfl fun p hp ha => by simp at hp; subst hp; cases ha
  repeat (first | refine zc ?_ | refine zk (e := by exact e1) (n := ?_) | refine zv ?_)
  refine awp_loop (fun m : Nat => n.d.sure.toNat + m <= n.d.ord.length) (fun m => [(0, .d (.ptr (.agg [.int .i64 s, rows nx, ints lp]))), (1, .ref 10000 3), (5, .d (ints (tN nx n.d.bel n.d.bel ((n.d.ord.drop n.d.sure.toNat).take m)).1)), (6, .d (ints (tN nx n.d.bel n.d.bel ((n.d.ord.drop n.d.sure.toNat).take m)).2)), (7, .d (.int .i64 (n.d.sure + m)))])
    (fun _ => [(10000, .box [.d (.int .i64 n.st), .d (.int .i64 n.life), .d (.int .i64 n.tk), .d (.int .i64 n.d.life), .d (ints n.d.ord), .d (.int .i64 n.d.sure), .d (ints n.d.bel), .d (.int .i64 n.sv.life), .d (ints n.sv.ord), .d (.int .i64 n.sv.sure), .d (ints n.sv.bel), .own 20000]), (20000, .arr 93 4 (n.wire.map pkD))]) (fun m => n.d.ord.length - m) 0 (by omega) ?_ rfl ?_
  . exact zs
  . intro m hm
    obtain ⟨k1, k2, k3, k4⟩ := key m hm
    by_cases hlt : n.d.sure.toNat + m < n.d.ord.length
    . have hdl : m < (n.d.ord.drop n.d.sure.toNat).length := by rw [List.length_drop]; omega
      have hsn := tN_snoc (nx := nx) (x := (n.d.ord.drop n.d.sure.toNat)[m]) ((n.d.ord.drop n.d.sure.toNat).take m) n.d.bel n.d.bel
      rw [<- List.take_succ_eq_append_getElem hdl] at hsn
      have hxr : 0 <= (n.d.ord.drop n.d.sure.toNat)[m] /\ (n.d.ord.drop n.d.sure.toNat)[m] < nx.length := h.ord _ (List.mem_of_mem_drop (List.getElem_mem hdl))
      have hpart : partD (n.d.ord.map (D.int .i64)) (n.d.sure + m).toNat (n.d.sure + m + 1).toNat = [D.int .i64 (n.d.ord.drop n.d.sure.toNat)[m]] := by
        unfold partD
        rw [show (n.d.sure + m + 1).toNat - (n.d.sure + m).toNat = 1 by omega, show (n.d.sure + m).toNat = n.d.sure.toNat + m by omega, List.getElem_drop, <- List.map_drop, List.drop_eq_getElem_cons hlt]
        rfl
      generalize (n.d.ord.drop n.d.sure.toNat)[m] = x at *
      generalize tN nx n.d.bel n.d.bel ((n.d.ord.drop n.d.sure.toNat).take m) = T at *
      have hl1 := ris_le10 hs.2 k1 k2
      have hl3 := ris_le10 hs.2 k3 k4
      have e2 := spec_l01Image (l := T.1) (w := [x]) v k1 (by omega) (by simp) (by simpa using hxr)
      have hil := imgL_length nx T.1 [x]
      generalize hI : imgL nx T.1 [x] = I at *
      unfold ints at e2
      rw [show List.map (D.int .i64) [x] = [D.int .i64 x] from rfl, <- hpart] at e2
      repeat (first | refine zc ?_ | ((first | apply x_l | apply x_q | apply x_lr | apply x_qr); (focus (first | (apply qa_slice_lh; (iterate 10 (focus (first | exact rfl | (first | assumption | omega | (simp; omega) | (simp; done) | rfl))))))); exact rfl) | refine zk (e := by exact e2) (n := ?_) | (apply v_x; (iterate 2 exact rfl); (focus (intro ok0 nw hle; (first | (apply qa_slice_lh; (iterate 10 (focus (first | exact rfl | (first | assumption | omega | (simp; omega) | (simp; done) | rfl)))))))); (iterate 2 exact rfl)) | refine zv ?_)
      refine awp_loop (fun j : Nat => j <= I.length) (fun j => [(0, .d (.ptr (.agg [.int .i64 s, rows nx, ints lp]))), (1, .ref 10000 3), (5, .d (ints I)), (6, .d (ints ((I.take j).foldl insL T.2))), (7, .d (.int .i64 (n.d.sure + m))), (8, .d (.int .i64 j))])
        (fun _ => [(10000, .box [.d (.int .i64 n.st), .d (.int .i64 n.life), .d (.int .i64 n.tk), .d (.int .i64 n.d.life), .d (ints n.d.ord), .d (.int .i64 n.d.sure), .d (ints n.d.bel), .d (.int .i64 n.sv.life), .d (ints n.sv.ord), .d (.int .i64 n.sv.sure), .d (ints n.sv.bel), .own 20000]), (20000, .arr 93 4 (n.wire.map pkD))]) (fun j => I.length - j) 0 (by omega) ?_ rfl ?_
      . exact zs
      . intro j hj
        have hil2 : (I.map (D.int .i64)).length = I.length := by simp
        by_cases hjl : j < I.length
        . have hx := el_int hjl
          have hfl : ∀ (L out : List Int), (L.foldl insL out).length <= out.length + L.length := by
            intro L
            induction L with
            | nil => intro out; simp
            | cons y L ih => intro out; have := ih (insL out y); have := insL_length out y; simp only [List.foldl_cons, List.length_cons]; omega
          have hf2 := hfl (I.take j) T.2
          rw [List.length_take] at hf2
          have e3 := spec_l00Put (l := (I.take j).foldl insL T.2) (n := I[j]) (by omega)
          have hst : (I.take (j + 1)).foldl insL T.2 = insL ((I.take j).foldl insL T.2) I[j] := by rw [List.take_succ_eq_append_getElem hjl, List.foldl_append]; rfl
          generalize (I.take j).foldl insL T.2 = O at *
          generalize I[j] = y at *
          repeat (first | refine zc ?_ | refine zk (e := by exact e3) (n := ?_) | refine zv ?_)
          refine loop_n (j + 1) (by omega) ?_ rfl (by omega)
          refine ⟨rfl, rfl, rfl, ?_, rfl, ?_, trivial⟩
          . rw [hst]; rfl
          . simp [lk]
        . have : j = I.length := by omega
          subst this
          repeat (first | refine zc ?_ | refine zv ?_)
          refine loop_n (m + 1) (by omega) ?_ rfl (by omega)
          refine ⟨rfl, rfl, ?_, ?_, ?_, trivial⟩
          . rw [hsn]; rfl
          . rw [hsn, List.take_length]; rfl
          . simp [lk]; omega
    . have : n.d.sure.toNat + m = n.d.ord.length := by omega
      have hall : (n.d.ord.drop n.d.sure.toNat).take m = n.d.ord.drop n.d.sure.toNat := List.take_of_length_le (by rw [List.length_drop]; omega)
      rw [hall]
      repeat (first | refine zc ?_ | refine zv ?_)
      (refine zb ?_; refine u_rH [(10000, 10000), (20000, 20000)] ?_ ?_)
      . rfl
      . rfl
theorem impl_toldR {s : Int} {nx : List (List Int)} {lp : List Int} {n : Ln} (v : LV s nx lp) (h : DskOk s nx n.d) :
    HC Tryz.prog 104 [.ref 10000 0] [(10000, wkB (.own 20000) n s nx lp), (20000, wrC n.wire)] (.own 30000) ([(10000, wkB (.own 20000) n s nx lp), (20000, wrC n.wire)] ++ [(30000, .arr 2 1 ((toldD nx n.d).map (.int .i64)))]) := by
  have hs := v.s1
  have hbl := h.bel_len (by omega)
  have hol := h.len
  have hsu := h.sure
  have hb64 : ∀ q ∈ n.d.bel, 0 <= q /\ q < 64 := fun q hq => by have := h.bel q hq; omega
  have e1 := impl_flockOf hb64 (by omega)
  have hodl : (n.d.ord.map (D.int .i64)).length = n.d.ord.length := by simp
  have hel := elsOk_ints n.d.ord
  have key : ∀ m : Nat, n.d.sure.toNat + m <= n.d.ord.length -> _ := fun m hm => tN_ok v.nx ((n.d.ord.drop n.d.sure.toNat).take m) n.d.bel n.d.bel (fun l hl => h.ord l (List.mem_of_mem_drop (List.mem_of_mem_take hl))) h.bel h.ris h.bel h.ris
  unfold toldD
  rw [tN_toldF]
  unfold wkB wrC
  refine hc_intro tabIs _ Tryz.func104 rfl rfl Tryz.ntmps104 rfl rfl rfl ?_ fun w0 ok0 XM XA anc he0 hX0 => ?_
  . exact likeIn_cons rfl rfl fun p hp ha => by simp at hp; subst hp; cases ha
  have hdm : (n.d.ord.map (D.int .i64)).drop n.d.sure.toNat = (n.d.ord.drop n.d.sure.toNat).map (.int .i64) := by rw [List.map_drop]
  have hdl : ((n.d.ord.drop n.d.sure.toNat).length : Int) = n.d.ord.length - n.d.sure := by rw [List.length_drop]; omega
  repeat (first | refine zc ?_ | ((first | apply x_l | apply x_q | apply x_lr | apply x_qr); (focus (first | (apply qa_slice_l; (iterate 8 (focus (first | exact rfl | (first | assumption | omega | (simp; omega) | (simp; done) | rfl))))))); exact rfl) | refine zk (e := by exact e1) (n := ?_) | (apply v_x; (iterate 2 exact rfl); (focus (intro ok0 nw hle; (first | (apply qa_slice_l; (iterate 8 (focus (first | exact rfl | (first | assumption | omega | (simp; omega) | (simp; done) | rfl)))))))); (iterate 2 exact rfl)) | refine zv ?_)
  refine awp_loop (fun m : Nat => n.d.sure.toNat + m <= n.d.ord.length) (fun m => [(0, .ref 10000 0), (3, .d (.int .u64 (bitsL 0 (tN nx n.d.bel n.d.bel ((n.d.ord.drop n.d.sure.toNat).take m)).1 : Nat))), (4, .d (.int .u64 (bitsL 0 (tN nx n.d.bel n.d.bel ((n.d.ord.drop n.d.sure.toNat).take m)).2 : Nat))), (27, .d (.lst ((n.d.ord.map (D.int .i64)).drop n.d.sure.toNat))), (28, .d (.int .i64 ((n.d.ord.map (D.int .i64)).drop n.d.sure.toNat).length)), (29, .d (.int .i64 m))])
    (fun _ => [(10000, wkB (.own 20000) n s nx lp), (20000, wrC n.wire)]) (fun m => n.d.ord.length - m) 0 (by omega) ?_ rfl ?_
  . exact zs
  . intro m hm
    obtain ⟨k1, k2, k3, k4⟩ := key m hm
    have hdml : ((n.d.ord.map (D.int .i64)).drop n.d.sure.toNat).length = n.d.ord.length - n.d.sure.toNat := by simp
    by_cases hlt : n.d.sure.toNat + m < n.d.ord.length
    . have hdl2 : m < (n.d.ord.drop n.d.sure.toNat).length := by rw [List.length_drop]; omega
      have hsn := tN_snoc (nx := nx) (x := (n.d.ord.drop n.d.sure.toNat)[m]) ((n.d.ord.drop n.d.sure.toNat).take m) n.d.bel n.d.bel
      rw [<- List.take_succ_eq_append_getElem hdl2] at hsn
      have hxr : 0 <= (n.d.ord.drop n.d.sure.toNat)[m] /\ (n.d.ord.drop n.d.sure.toNat)[m] < nx.length := h.ord _ (List.mem_of_mem_drop (List.getElem_mem hdl2))
      have hx : ((n.d.ord.map (D.int .i64)).drop n.d.sure.toNat)[(m : Int).toNat]? = some (.int .i64 (n.d.ord.drop n.d.sure.toNat)[m]) := by
        rw [hdm, List.getElem?_map, Int.toNat_natCast, List.getElem?_eq_getElem hdl2]
        rfl
      generalize (n.d.ord.drop n.d.sure.toNat)[m] = x at *
      generalize tN nx n.d.bel n.d.bel ((n.d.ord.drop n.d.sure.toNat).take m) = T at *
      have g1 : ∀ q ∈ T.1, 0 <= q /\ q < 64 := fun q hq => by have := k1 q hq; omega
      have g3 : ∀ q ∈ T.2, 0 <= q /\ q < 64 := fun q hq => by have := k3 q hq; omega
      have b1 := bitsL_lt T.1 0 (by omega) fun q hq => by have := g1 q hq; omega
      have b3 := bitsL_lt T.2 0 (by omega) fun q hq => by have := g3 q hq; omega
      have hset : setN (bitsL 0 T.1) = T.1 := setN_bits g1 k2
      have e2 := impl_step (x := x) v b1 (by rw [hset]; exact k1) hxr
      obtain ⟨i1, i2⟩ := imgL_spec nx T.1 [x]
      have hbi : bitsL 0 ((setN (bitsL 0 T.1)).map fun q => at2 nx x q) = bitsL 0 (imgL nx T.1 [x]) := by
        rw [hset]
        refine bits_ext fun y => ?_
        rw [i2, List.mem_map]
        constructor
        . rintro ⟨q, hq, rfl⟩; exact ⟨q, hq, rfl⟩
        . rintro ⟨q, hq, rfl⟩; exact ⟨q, hq, rfl⟩
      rw [hbi] at e2
      have hI : ∀ q ∈ imgL nx T.1 [x], 0 <= q /\ q < s := fun q hq => by
        obtain ⟨q0, hq0, rfl⟩ := (i2 q).1 hq
        exact runS_range v.nx [x] (k1 q0 hq0) fun l hl => by simp at hl; subst hl; exact hxr
      have b5 := bitsL_lt (imgL nx T.1 [x]) 0 (by omega) fun q hq => by have := hI q hq; omega
      have hor := bits_or (imgL nx T.1 [x]) T.2
      generalize imgL nx T.1 [x] = I at *
      have r1 : (0 : Int) <= (bitsL 0 T.2 : Nat) /\ ((bitsL 0 T.2 : Nat) : Int) < 18446744073709551616 := by omega
      have r2 : (0 : Int) <= (bitsL 0 I : Nat) /\ ((bitsL 0 I : Nat) : Int) < 18446744073709551616 := by omega
      unfold wkB wrC
      repeat (first | refine zc ?_ | ((first | apply x_l | apply x_q | apply x_lr | apply x_qr); (focus (first | (apply qb_or; (iterate 4 (focus (first | exact rfl | (first | assumption | omega | (simp; omega) | (simp; done) | rfl))))))); exact rfl) | refine zk (e := by exact e2) (n := ?_) | (apply v_x; (iterate 2 exact rfl); (focus (intro ok0 nw hle; (first | (apply qb_or; (iterate 4 (focus (first | exact rfl | (first | assumption | omega | (simp; omega) | (simp; done) | rfl)))))))); (iterate 2 exact rfl)) | refine zv ?_)
      refine loop_n (m + 1) (by omega) ?_ rfl (by omega)
      refine ⟨rfl, ?_, ?_, rfl, rfl, ?_, trivial⟩
      . rw [hsn]; rfl
      . rw [hsn]
        show SV.d (.int .u64 _) = SV.d (.int .u64 _)
        rw [hor, <- bor_eq]
      . simp [lk]
    . have : n.d.sure.toNat + m = n.d.ord.length := by omega
      have hall : (n.d.ord.drop n.d.sure.toNat).take m = n.d.ord.drop n.d.sure.toNat := List.take_of_length_le (by rw [List.length_drop]; omega)
      rw [hall] at k1 k2 k3 k4 ⊢
      generalize tN nx n.d.bel n.d.bel (n.d.ord.drop n.d.sure.toNat) = T at *
      have g3 : ∀ q ∈ T.2, 0 <= q /\ q < 64 := fun q hq => by have := k3 q hq; omega
      have b3 := bitsL_lt T.2 0 (by omega) fun q hq => by have := g3 q hq; omega
      have e3 := impl_setH b3
      rw [setN_bits g3 k4] at e3
      repeat (first | refine zc ?_ | refine zv ?_)
      refine hcl [] [(30000, 500)] e3 ?_
      repeat (first | refine zc ?_ | refine zv ?_)
      (refine zb ?_; refine u_rH [(10000, 10000), (20000, 20000), (500, 30000)] ?_ ?_)
      . rfl
      . rfl
end Go.Proofs.YtffmlijngfhhaaaGreatDoor
