/- Lines of machines in the program: packets. No condition. -/
import Derived.Test.YtffmlijngfhhaaaGreatDoorOb
import Derived.Test.YtffmlijngfhhaaaGreatDoorRa
import Derived.Test.YtffmlijngfhhaaaGreatDoorFwW
namespace Go.Proofs.YtffmlijngfhhaaaGreatDoor
open Go
attribute [local irreducible] awp awpL awpQL awpQ awpM pWalk Qt AC thenQ blockQ loopQ OpTo
set_option linter.unusedVariables false
set_option linter.unusedSimpArgs false
set_option maxHeartbeats 2000000
attribute [local irreducible] HC
def wkB (w : SV) (n : Ln) (s : Int) (nx : List (List Int)) (lp : List Int) : Chunk := .box [.d (.int .i64 n.st), .d (.int .i64 n.life), .d (.int .i64 n.tk), .d (.int .i64 n.d.life), .d (ints n.d.ord), .d (.int .i64 n.d.sure), .d (ints n.d.bel), .d (.int .i64 n.sv.life), .d (ints n.sv.ord), .d (.int .i64 n.sv.sure), .d (ints n.sv.bel), w, .d (.int .i64 s), .d (rows nx), .d (ints lp)]
theorem impl_clone {ns : List Int} (hn : ns.length <= 1048576) : AC Tryz.prog 110 [ints ns] (ints ns) := ac_of_hc (impl_cloneH hn) rfl
theorem impl_cloneN : AC Tryz.prog 110 [.nils] (ints []) := AC.le (impl_clone (ns := []) (by simp)) rfl fun i x y hx hy => by
  match i with
  | 0 => simp at hx hy; subst hx hy; exact .nil
  | i + 1 => simp at hx
theorem impl_clip {ns : List Int} (hn : ns.length <= 1048576) : AC Tryz.prog 112 [ints ns] (.full (ns.map (.int .i64))) := by
  refine ac_intro tabIs _ Tryz.func112 rfl rfl Tryz.ntmps112 rfl rfl fun w0 ok0 he0 => ?_
  repeat (first | refine zc ?_ | ((first | apply x_l | apply x_q | apply x_lr | apply x_qr); (focus (first | (apply qv_clip; (iterate 6 (focus (first | exact rfl | (first | assumption | omega | (simp; omega) | (simp; done) | rfl))))))); exact rfl) | (apply v_x; (iterate 2 exact rfl); (focus (intro ok0 nw hle; (first | (apply qv_clip; (iterate 6 (focus (first | exact rfl | (first | assumption | omega | (simp; omega) | (simp; done) | rfl)))))))); (iterate 2 exact rfl)) | refine zv ?_)
  refine zt ?_
  rfl
theorem impl_copied {d : Dsk} (h1 : d.ord.length <= 60) (h2 : d.bel.length <= 10) : AC Tryz.prog 42 [dskD d] (dskD d) := by
  have e1 := impl_clone (ns := d.ord) (by omega)
  have e2 := impl_clone (ns := d.bel) (by omega)
  unfold dskD dskL
  refine ac_introC tabIs _ Tryz.func42 rfl rfl Tryz.ntmps42 rfl rfl fun w0 ok0 he0 => ?_
  repeat (first | refine zc ?_ | refine zk (e := by exact e1) (n := ?_) | refine zk (e := by exact e2) (n := ?_) | refine zv ?_)
  refine ztC ?_
  rfl
theorem impl_copiedN {l : List Int} (h2 : l.length <= 10) : AC Tryz.prog 42 [.agg [.int .i64 0, .nils, .int .i64 0, ints l]] (.agg [.int .i64 0, ints [], .int .i64 0, ints l]) := by
  have e1 := impl_cloneN
  have e2 := impl_clone (ns := l) (by omega)
  refine ac_introC tabIs _ Tryz.func42 rfl rfl Tryz.ntmps42 rfl rfl fun w0 ok0 he0 => ?_
  repeat (first | refine zc ?_ | refine zk (e := by exact e1) (n := ?_) | refine zk (e := by exact e2) (n := ?_) | refine zv ?_)
  refine ztC ?_
  rfl
theorem impl_newWorksH {s st : Int} {nx : List (List Int)} {lp : List Int} (hs : 0 <= s /\ s <= 10) :
    HC Tryz.prog 44 [.d (ltD s nx lp), .d (.int .i64 st)] [] (.ref 30000 0) [(30000, .box [.d (.int .i64 st), .d (.int .i64 0), .d (.int .i64 0), .d (.int .i64 0), .d .nils, .d (.int .i64 0), .d (ints (mk1 0 s.toNat)), .d (.int .i64 0), .d (ints []), .d (.int .i64 0), .d (ints (mk1 0 s.toNat)), .d .nils, .d (.int .i64 s), .d (rows nx), .d (ints lp)])] := by
  have e1 := impl_all (s := s) (nx := nx) (by omega)
  have e2 := impl_copiedN (l := mk1 0 s.toNat) (by rw [mk1_length]; omega)
  unfold ltD
  refine hc_intro tabIs _ Tryz.func44 rfl rfl Tryz.ntmps44 rfl rfl rfl ?_ fun w0 ok0 XM XA anc he0 hX0 => ?_
  . exact likeIn_nil
  repeat (first | refine zcn ?_ | refine zk (e := by exact e1) (n := ?_) | refine zv ?_)
  refine awp_draw_tail 7 ?_ ?_ ?_ ?_
  . exact mixedIs
  . (as_aux_lemma => kernel_rfl)
  . exact rfl
  repeat (first | refine v_w (t := 17) ?_ | refine zc ?_ | refine u_w (t := 17) ?_ | refine zk (e := by exact e2) (n := ?_) | refine zv ?_)
  (refine zb ?_; refine u_rH [(17, 30000)] ?_ ?_)
  . rfl
  . rfl
theorem impl_sendH {s : Int} {nx : List (List Int)} {lp : List Int} {n : Ln} {p : Pk} (hw : n.wire.length <= 10) : HC Tryz.prog 113 [.ref 10000 0, .d (pkD p)] [(10000, wkB (.own 20000) n s nx lp), (20000, wrC n.wire)] (.d (.int .i64 (sendF n p).2)) [(10000, wkB (.own 20000) (sendF n p).1 s nx lp), (20000, wrC (sendF n p).1.wire)] := by
  have hl : (n.wire.map pkD).length = n.wire.length := by simp
  unfold sendF
  by_cases hc : n.wire.length = 10
  . rw [if_pos hc]
    unfold wkB wrC pkD
    unfold pkD at hl
    refine hc_intro tabIs _ Tryz.func113 rfl rfl Tryz.ntmps113 rfl rfl rfl ?_ fun w0 ok0 XM XA anc he0 hX0 => ?_
    . exact likeIn_cons rfl rfl fun p hp ha => by simp at hp; subst hp; cases ha
    repeat (first | refine zc ?_ | refine zv ?_)
    (refine zb ?_; refine u_rH [(10000, 10000), (20000, 20000)] ?_ ?_)
    . rfl
    . rfl
  . rw [if_neg hc]
    have e : wrC (n.wire ++ [p]) = .arr 93 4 (n.wire.map pkD ++ [pkD p]) := by simp [wrC]
    show HC _ _ _ _ _ [(10000, wkB (.own 20000) n s nx lp), (20000, wrC (n.wire ++ [p]))]
    rw [e]
    unfold wkB wrC pkD
    unfold pkD at hl
    refine hc_intro tabIs _ Tryz.func113 rfl rfl Tryz.ntmps113 rfl rfl rfl ?_ fun w0 ok0 XM XA anc he0 hX0 => ?_
    . exact likeIn_cons rfl rfl fun p hp ha => by simp at hp; subst hp; cases ha
    repeat (first | refine zcn ?_ | refine zv ?_)
    refine u_m [(8, [20000]), (12, [10000])] (.tk [20000] [0] (.tk [] [1, 2, 3, 4, 5, 6, 7, 8, 9, 10, 11, 12] .done)) ?_
    repeat (first | refine zc ?_ | refine zv ?_)
    (refine zb ?_; refine u_rH [(10000, 10000), (20000, 20000)] ?_ ?_)
    . rfl
    . rfl
theorem impl_deleteH {xs : List Pk} {a : Int} (h0 : 0 <= a) (h1 : a < xs.length) (hn : xs.length <= 1000) :
    HC Tryz.prog 115 [.own 20000, .d (.int .i64 a), .d (.int .i64 (a + 1))] [(20000, wrC xs)] (.own 20000) [(20000, wrC (xs.eraseIdx a.toNat))] := by
  have hl : (xs.map pkD).length = xs.length := by simp
  have hpel : ∀ x ∈ xs.map pkD, x.el = true := fun y hy => (pk_el xs y hy).1
  have he : wrC (xs.eraseIdx a.toNat) = .arr 93 4 ((xs.map pkD).take a.toNat ++ (xs.map pkD).drop (a.toNat + 1)) := by rw [<- pk_erase]; rfl
  rw [he]
  unfold wrC
  generalize xs.map pkD = ys at *
  refine hc_intro tabIs _ Tryz.func115 rfl rfl Tryz.ntmps115 rfl rfl rfl ?_ fun w0 ok0 XM XA anc he0 hX0 => ?_
  . exact fun p hp ha => by simp at hp; subst hp; cases ha
  repeat (first | refine zcn ?_ | ((first | apply x_l | apply x_q | apply x_lr | apply x_qr); (focus (first | (apply wv_look; (iterate 12 (focus (first | exact rfl | (first | assumption | omega | (simp; omega) | (simp; done) | rfl))))))); exact rfl) | (apply v_x; (iterate 2 exact rfl); (focus (intro ok0 nw hle; (first | (apply wv_look; (iterate 12 (focus (first | exact rfl | (first | assumption | omega | (simp; omega) | (simp; done) | rfl)))))))); (iterate 2 exact rfl)) | refine zv ?_)
  refine awp_draw_tail 6 ?_ ?_ ?_ ?_
  . exact mixedIs
  . (as_aux_lemma => kernel_rfl)
  . exact rfl
  repeat (first | refine zcn ?_ | ((first | apply x_l | apply x_q | apply x_lr | apply x_qr); (focus (first | (apply wv_first; (iterate 8 (focus (first | exact rfl | (first | assumption | omega | (simp; omega) | (simp; done) | rfl))))) | (apply wv_view; (iterate 9 (focus (first | exact rfl | (first | assumption | omega | (simp; omega) | (simp; done) | rfl))))))); exact rfl) | (apply v_x; (iterate 2 exact rfl); (focus (intro ok0 nw hle; (first | (apply wv_first; (iterate 8 (focus (first | exact rfl | (first | assumption | omega | (simp; omega) | (simp; done) | rfl))))) | (apply wv_view; (iterate 9 (focus (first | exact rfl | (first | assumption | omega | (simp; omega) | (simp; done) | rfl)))))))); (iterate 2 exact rfl)) | refine zv ?_)
  (apply lto; (focus (apply wv_close; (iterate 9 exact rfl); omega; omega; omega; exact hpel)))
  repeat (first | refine zcn ?_ | ((first | apply x_l | apply x_q | apply x_lr | apply x_qr); (focus (first | (apply wv_lenFirst; (iterate 5 (focus (first | exact rfl | (first | assumption | omega | (simp; omega) | (simp; done) | rfl))))))); exact rfl) | (apply v_x; (iterate 2 exact rfl); (focus (intro ok0 nw hle; (first | (apply wv_lenFirst; (iterate 5 (focus (first | exact rfl | (first | assumption | omega | (simp; omega) | (simp; done) | rfl)))))))); (iterate 2 exact rfl)) | refine zv ?_)
  have hq : a.toNat + (ys.length - (a + 1).toNat) + 1 = ys.length := by omega
  refine awpL_clearF ?_ rfl rfl rfl rfl rfl rfl rfl rfl rfl rfl rfl rfl rfl rfl rfl (by simp; omega) (by simp; omega)
  repeat (first | refine zcr ?_ | refine zv ?_)
  refine awp_region ?_
  (apply lto; (focus (apply wv_cut; (iterate 4 exact rfl); (simp; omega); (simp; omega))))
  repeat (first | refine zc ?_ | refine zv ?_)
  have hfin : List.take (a.toNat + (ys.length - (a + 1).toNat)) (List.take ((a.toNat + (ys.length - (a + 1).toNat) : Nat) : Int).toNat (List.take a.toNat ys ++ List.drop (a + 1).toNat ys ++ List.drop (a.toNat + (ys.length - (a + 1).toNat)) ys) ++
      List.replicate ((List.take a.toNat ys ++ List.drop (a + 1).toNat ys ++ List.drop (a.toNat + (ys.length - (a + 1).toNat)) ys).length - ((a.toNat + (ys.length - (a + 1).toNat) : Nat) : Int).toNat) (D.agg [.bool false, .int .i64 0, .int .i64 0, .int .i64 0])) = List.take a.toNat ys ++ List.drop (a.toNat + 1) ys := by
    have e1 : (List.take a.toNat ys ++ List.drop (a + 1).toNat ys).length = a.toNat + (ys.length - (a + 1).toNat) := by simp; omega
    rw [Int.toNat_natCast, List.take_left' e1, List.take_left' e1, show (a + 1).toNat = a.toNat + 1 by omega]
  (refine zb ?_; refine u_rH [(20000, 20000)] ?_ ?_)
  . rfl
  . exact congrArg (fun l => some [(20000, Chunk.arr 93 4 l)]) hfin
end Go.Proofs.YtffmlijngfhhaaaGreatDoor
namespace Go.Proofs.YtffmlijngfhhaaaGreatDoor
open Go
attribute [local irreducible] awp awpL awpQL awpQ awpM pWalk Qt AC thenQ blockQ loopQ OpTo
set_option linter.unusedVariables false
set_option linter.unusedSimpArgs false
set_option maxHeartbeats 2000000
attribute [local irreducible] HC
theorem bel_set {s y : Int} {nx : List (List Int)} {lp L w : List Int} (v : LV s nx lp) (hl : ∀ q ∈ L, 0 <= q /\ q < s) (hwa : ∀ l ∈ w, 0 <= l /\ l < nx.length) :
    setN (bitsL 0 ((setN (bitsL 0 (imgL nx L w))).filter fun q => decide (lamp lp q = y))) = (imgL nx L w).filter fun q => decide (lamp lp q = y) := by
  have hs := v.s1
  have h1 : ∀ q ∈ imgL nx L w, 0 <= q /\ q < 64 := fun q hq => by
    obtain ⟨q0, hq0, rfl⟩ := ((imgL_spec nx L w).2 q).1 hq
    have := runS_range v.nx w (hl q0 hq0) hwa
    omega
  rw [setN_bits h1 (imgL_spec nx L w).1]
  exact setN_bits (fun q hq => h1 q (List.mem_filter.1 hq).1) (List.Pairwise.filter _ (imgL_spec nx L w).1)
theorem impl_readH {s : Int} {nx : List (List Int)} {lp : List Int} {k : Nat} {n : Ln} {p : Pk} (v : LV s nx lp) (h : LnOk s nx k n) (hp : PkOk s nx k p) (hk : k <= 1000) (hr : p.rep = true) :
    HC Tryz.prog 116 [.ref 10000 0, .d (pkD p)] [(10000, wkB (.own 20000) n s nx lp), (20000, wrC n.wire)] (.d (.tup [])) [(10000, wkB (.own 20000) { n with d := readF s nx lp n.d p } s nx lp), (20000, wrC n.wire)] := by
  have hs := v.s1
  have e1 := impl_all (s := s) (nx := nx) (by omega)
  have ho := openF_ok (by omega) h.d hp
  have hbl := ho.bel_len (by omega)
  have hd := h.d
  obtain ⟨st, lf, tk, ⟨dl, od, su, be⟩, sv, wire⟩ := n
  dsimp only at hd ho hbl ⊢
  have b2 : od.length <= 60 := hd.len
  have b3 : 0 <= su /\ su <= od.length := hd.sure
  have hpn := hp.num
  have hel := elsOk_ints od
  have hol : (od.map (D.int .i64)).length = od.length := by simp
  have hbits : ∀ L : List Int, (∀ q ∈ L, 0 <= q /\ q < s) -> L.length <= 10 -> ∀ w : List Int, (∀ l : Int, l ∈ w -> 0 <= l /\ l < nx.length) ->
      AC Tryz.prog 150 [ints (imgL nx L w)] (.int .u64 (bitsL 0 (imgL nx L w))) /\
      AC Tryz.prog 155 [ltD s nx lp, .int .u64 (bitsL 0 (imgL nx L w)), .int .i64 p.val] (.int .u64 (bitsL 0 ((setN (bitsL 0 (imgL nx L w))).filter fun q => decide (lamp lp q = p.val)))) /\
      AC Tryz.prog 152 [.int .u64 (bitsL 0 ((setN (bitsL 0 (imgL nx L w))).filter fun q => decide (lamp lp q = p.val)))] (ints ((imgL nx L w).filter fun q => decide (lamp lp q = p.val))) := fun L hL hLn w hw => by
    have h1 : ∀ q ∈ imgL nx L w, 0 <= q /\ q < s := fun q hq => by
      obtain ⟨q0, hq0, rfl⟩ := ((imgL_spec nx L w).2 q).1 hq
      exact runS_range v.nx w (hL q0 hq0) hw
    have h2 : ∀ q ∈ imgL nx L w, 0 <= q /\ q < 64 := fun q hq => by have := h1 q hq; omega
    have hlen := imgL_length nx L w
    have hb := bitsL_lt (imgL nx L w) 0 (by omega) fun q hq => by have := h2 q hq; omega
    have hset : setN (bitsL 0 (imgL nx L w)) = imgL nx L w := setN_bits h2 (imgL_spec nx L w).1
    refine ⟨impl_flockOf h2 (by omega), impl_lampSet v hb (by rw [hset]; exact h1), ?_⟩
    have hb2 := bitsL_lt ((setN (bitsL 0 (imgL nx L w))).filter fun q => decide (lamp lp q = p.val)) 0 (by omega) fun q hq => by
      have := h2 q (by rw [hset] at hq; exact (List.mem_filter.1 hq).1)
      omega
    have := impl_set hb2
    rw [bel_set v hL hw] at this
    exact this
  by_cases h1 : dl < p.life
  . have hof : openF s ⟨dl, od, su, be⟩ p = ⟨p.life, [], 0, mk1 0 s.toNat⟩ := if_pos h1
    unfold readF
    simp only [hof] at ho hbl ⊢
    have hol0 : (List.map (D.int .i64) []).length = 0 := rfl
    have e7 := impl_size1 (ns := [])
    by_cases h2 : p.num = 0
    . rw [if_pos (by simp; omega)]
      have hsg : seg [] 0 p.num = [] := by simp [seg]
      rw [hsg]
      have e2 := impl_image (l := mk1 0 s.toNat) (w := []) v ho.bel (by omega) (by simp) (by simp)
      obtain ⟨e3, e5, e6⟩ := hbits (mk1 0 s.toNat) ho.bel hbl [] (by simp)
      generalize bitsL 0 ((setN (bitsL 0 (imgL nx (mk1 0 s.toNat) []))).filter fun q => decide (lamp lp q = p.val)) = f2 at *
      generalize bitsL 0 (imgL nx (mk1 0 s.toNat) []) = f1 at *
      generalize ((imgL nx (mk1 0 s.toNat) []).filter fun q => decide (lamp lp q = p.val)) = R at *
      have hpd : partD [] (0 : Int).toNat p.num.toNat = [] := by simp [partD]
      have hel0 : elsOk 1 ([] : List D) = true := rfl
      unfold ints at e2
      rw [show List.map (D.int .i64) [] = partD [] (0 : Int).toNat p.num.toNat from hpd.symm] at e2
      have e4 := impl_within (n := p.num) (lo := 0) (hi := (([] : List Int).length : Nat))
      rw [show inB p.num 0 (([] : List Int).length : Nat) = true by rw [h2]; rfl] at e4
      unfold wkB wrC pkD ltD at *
      rw [hr]
      refine hc_intro tabIs _ Tryz.func116 rfl rfl Tryz.ntmps116 rfl rfl rfl ?_ fun w0 ok0 XM XA anc he0 hX0 => ?_
      . exact likeIn_cons rfl rfl fun p hp ha => by simp at hp; subst hp; cases ha
      repeat (first | refine zcn ?_ | refine zv ?_)
      refine u_d ?_
      repeat (first | refine zcn ?_ | refine zv ?_)
      refine u_dT ?_
      repeat (first | refine zcn ?_ | refine zk (e := by exact e1) (n := ?_) | refine zv ?_)
      refine awp_cellLe 10000 4 rfl rfl .nil ?_
      repeat (first | refine zc ?_ | ((first | apply x_l | apply x_q | apply x_lr | apply x_qr); (focus (first | (apply qa_slice_lh; (iterate 10 (focus (first | exact rfl | (first | assumption | omega | (simp; omega) | (simp; done) | rfl))))))); exact rfl) | refine zk (e := by exact e7) (n := ?_) | refine zk (e := by exact e4) (n := ?_) | refine zk (e := by exact e2) (n := ?_) | refine zk (e := by exact e3) (n := ?_) | refine zk (e := by exact e5) (n := ?_) | refine zk (e := by exact e6) (n := ?_) | (apply v_x; (iterate 2 exact rfl); (focus (intro ok0 nw hle; (first | (apply qa_slice_lh; (iterate 10 (focus (first | exact rfl | (first | assumption | omega | (simp; omega) | (simp; done) | rfl)))))))); (iterate 2 exact rfl)) | refine zv ?_ | refine zg ?_)
      (refine u_eH [(10000, 10000), (20000, 20000)] ?_ ?_)
      . rfl
      . rfl
    . rw [if_neg (by simp; omega)]
      have e4 := impl_within (n := p.num) (lo := 0) (hi := (([] : List Int).length : Nat))
      rw [show inB p.num 0 (([] : List Int).length : Nat) = false by simp [inB]; omega] at e4
      unfold wkB wrC pkD ltD at *
      rw [hr]
      refine hc_intro tabIs _ Tryz.func116 rfl rfl Tryz.ntmps116 rfl rfl rfl ?_ fun w0 ok0 XM XA anc he0 hX0 => ?_
      . exact likeIn_cons rfl rfl fun p hp ha => by simp at hp; subst hp; cases ha
      repeat (first | refine zcn ?_ | refine zv ?_)
      refine u_d ?_
      repeat (first | refine zcn ?_ | refine zv ?_)
      refine u_dT ?_
      repeat (first | refine zcn ?_ | refine zk (e := by exact e1) (n := ?_) | refine zv ?_)
      refine awp_cellLe 10000 4 rfl rfl .nil ?_
      repeat (first | refine zc ?_ | refine zk (e := by exact e7) (n := ?_) | refine zk (e := by exact e4) (n := ?_) | refine zv ?_ | refine zg ?_)
      (refine u_eH [(10000, 10000), (20000, 20000)] ?_ ?_)
      . rfl
      . rfl
  . have hof : openF s ⟨dl, od, su, be⟩ p = ⟨dl, od, su, be⟩ := if_neg h1
    unfold readF
    simp only [hof] at ho hbl ⊢
    by_cases h2 : p.life = dl /\ su <= p.num /\ p.num <= od.length
    . rw [if_pos h2]
      have hsa : ∀ l ∈ seg od su p.num, 0 <= l /\ l < nx.length := fun l hl => ho.ord l (mem_seg hl)
      have e2 := impl_image (l := be) (w := seg od su p.num) v ho.bel (by omega) (by have := seg_len (l := od) (a := su) (b := p.num); omega) hsa
      obtain ⟨e3, e5, e6⟩ := hbits be ho.bel hbl _ hsa
      generalize bitsL 0 ((setN (bitsL 0 (imgL nx be (seg od su p.num)))).filter fun q => decide (lamp lp q = p.val)) = f2 at *
      generalize bitsL 0 (imgL nx be (seg od su p.num)) = f1 at *
      generalize ((imgL nx be (seg od su p.num)).filter fun q => decide (lamp lp q = p.val)) = R at *
      unfold ints at e2
      rw [<- seg_part] at e2
      have e4 := impl_within (n := p.num) (lo := su) (hi := (od.length : Nat))
      rw [show inB p.num su (od.length : Nat) = true by simp [inB]; omega] at e4
      unfold wkB wrC pkD ltD at *
      rw [hr]
      refine hc_intro tabIs _ Tryz.func116 rfl rfl Tryz.ntmps116 rfl rfl rfl ?_ fun w0 ok0 XM XA anc he0 hX0 => ?_
      . exact likeIn_cons rfl rfl fun p hp ha => by simp at hp; subst hp; cases ha
      repeat (first | refine zc ?_ | ((first | apply x_l | apply x_q | apply x_lr | apply x_qr); (focus (first | (apply qa_slice_lh; (iterate 10 (focus (first | exact rfl | (first | assumption | omega | (simp; omega) | (simp; done) | rfl))))))); exact rfl) | refine zk (e := by exact impl_size1) (n := ?_) | refine zk (e := by exact e4) (n := ?_) | refine zk (e := by exact e2) (n := ?_) | refine zk (e := by exact e3) (n := ?_) | refine zk (e := by exact e5) (n := ?_) | refine zk (e := by exact e6) (n := ?_) | (apply v_x; (iterate 2 exact rfl); (focus (intro ok0 nw hle; (first | (apply qa_slice_lh; (iterate 10 (focus (first | exact rfl | (first | assumption | omega | (simp; omega) | (simp; done) | rfl)))))))); (iterate 2 exact rfl)) | refine zv ?_ | refine zg ?_)
      (refine u_eH [(10000, 10000), (20000, 20000)] ?_ ?_)
      . rfl
      . rfl
    . rw [if_neg h2]
      by_cases h3 : p.life = dl
      . have e4 := impl_within (n := p.num) (lo := su) (hi := (od.length : Nat))
        rw [show inB p.num su (od.length : Nat) = false by simp [inB]; omega] at e4
        unfold wkB wrC pkD ltD at *
        rw [hr]
        refine hc_intro tabIs _ Tryz.func116 rfl rfl Tryz.ntmps116 rfl rfl rfl ?_ fun w0 ok0 XM XA anc he0 hX0 => ?_
        . exact likeIn_cons rfl rfl fun p hp ha => by simp at hp; subst hp; cases ha
        repeat (first | refine zc ?_ | refine zk (e := by exact impl_size1) (n := ?_) | refine zk (e := by exact e4) (n := ?_) | refine zv ?_ | refine zg ?_)
        (refine u_eH [(10000, 10000), (20000, 20000)] ?_ ?_)
        . rfl
        . rfl
      . unfold wkB wrC pkD ltD at *
        rw [hr]
        refine hc_intro tabIs _ Tryz.func116 rfl rfl Tryz.ntmps116 rfl rfl rfl ?_ fun w0 ok0 XM XA anc he0 hX0 => ?_
        . exact likeIn_cons rfl rfl fun p hp ha => by simp at hp; subst hp; cases ha
        repeat (first | refine zc ?_ | refine zk (e := by exact impl_size1) (n := ?_) | refine zv ?_ | refine zg ?_)
        (refine u_eH [(10000, 10000), (20000, 20000)] ?_ ?_)
        . rfl
        . rfl
theorem impl_comeInH {s : Int} {nx : List (List Int)} {lp : List Int} {k : Nat} {n : Ln} {p : Pk} (v : LV s nx lp) (h : LnOk s nx k n) (hp : PkOk s nx k p) (hk : k <= 1000) :
    HC Tryz.prog 116 [.ref 10000 0, .d (pkD p)] [(10000, wkB (.own 20000) n s nx lp), (20000, wrC n.wire)] (.d (.tup [])) [(10000, wkB (.own 20000) (inF s nx lp n p) s nx lp), (20000, wrC n.wire)] := by
  have htk := h.tk
  have hst := h.st
  unfold inF
  by_cases hr : p.rep = true
  . rw [if_pos hr]
    exact impl_readH v h hp hk hr
  . rw [if_neg hr]
    have hrf : p.rep = false := by simpa using hr
    by_cases h1 : p.life = n.life
    . by_cases h2 : p.num = n.tk
      . rw [if_pos ⟨h1, h2⟩]
        have hl := hp.vo hrf
        have r1 := el_row2 hl
        have l1 := tbl_row v.nx hl
        have q1 : (List.map (D.int .i64) (row nx p.val))[n.st.toNat]? = some (.int .i64 (at2 nx p.val n.st)) := el_int2 (ns := row nx p.val) (q := n.st) (by omega)
        unfold wkB wrC pkD
        rw [hrf]
        refine hc_intro tabIs _ Tryz.func116 rfl rfl Tryz.ntmps116 rfl rfl rfl ?_ fun w0 ok0 XM XA anc he0 hX0 => ?_
        . exact likeIn_cons rfl rfl fun p hp ha => by simp at hp; subst hp; cases ha
        repeat (first | refine zc ?_ | refine zv ?_ | refine zg ?_)
        (refine zb ?_; refine u_rH [(10000, 10000), (20000, 20000)] ?_ ?_)
        . rfl
        . rfl
      . rw [if_neg fun e => h2 e.2]
        unfold wkB wrC pkD
        rw [hrf]
        refine hc_intro tabIs _ Tryz.func116 rfl rfl Tryz.ntmps116 rfl rfl rfl ?_ fun w0 ok0 XM XA anc he0 hX0 => ?_
        . exact likeIn_cons rfl rfl fun p hp ha => by simp at hp; subst hp; cases ha
        repeat (first | refine zc ?_ | refine zv ?_ | refine zg ?_)
        (refine zb ?_; refine u_rH [(10000, 10000), (20000, 20000)] ?_ ?_)
        . rfl
        . rfl
    . rw [if_neg fun e => h1 e.1]
      unfold wkB wrC pkD
      rw [hrf]
      refine hc_intro tabIs _ Tryz.func116 rfl rfl Tryz.ntmps116 rfl rfl rfl ?_ fun w0 ok0 XM XA anc he0 hX0 => ?_
      . exact likeIn_cons rfl rfl fun p hp ha => by simp at hp; subst hp; cases ha
      repeat (first | refine zc ?_ | refine zv ?_ | refine zg ?_)
      (refine zb ?_; refine u_rH [(10000, 10000), (20000, 20000)] ?_ ?_)
      . rfl
      . rfl
end Go.Proofs.YtffmlijngfhhaaaGreatDoor
namespace Go.Proofs.YtffmlijngfhhaaaGreatDoor
open Go
attribute [local irreducible] awp awpL awpQL awpQ awpM pWalk Qt AC thenQ blockQ loopQ OpTo
set_option linter.unusedVariables false
set_option linter.unusedSimpArgs false
set_option maxHeartbeats 2000000
attribute [local irreducible] HC
theorem impl_sizeP {xs : List D} : AC Tryz.prog 114 [.lst xs] (.int .i64 xs.length) := by
  refine ac_intro tabIs _ Tryz.func114 rfl rfl Tryz.ntmps114 rfl rfl fun w0 ok0 he0 => ?_
  repeat (first | refine zc ?_ | refine zv ?_)
  refine zt ?_
  rfl
theorem impl_isStateA {s q : Int} {nx : List (List Int)} (hs : 1 <= s /\ s <= 1000) : AC Tryz.prog 98 [.agg [.int .i64 s, rows nx], .int .i64 q] (.bool (inB q 0 (s - 1))) := by
  refine ac_intro tabIs _ Tryz.func98 rfl rfl Tryz.ntmps98 rfl rfl fun w0 ok0 he0 => ?_
  repeat (first | refine zc ?_ | refine zk (e := by exact impl_within) (n := ?_) | refine zv ?_)
  refine zt ?_
  rfl
theorem impl_doH {s c a : Int} {nx : List (List Int)} {lp : List Int} {k : Nat} {n : Ln} (hv : litOk s nx lp = true) (h : LnOk s nx k n) (hk : k <= 1000) (hd : ddOk (c, a)) :
    HC Tryz.prog 45 [.ref 10000 0, .d (deedD (c, a))] [(10000, wkB (.own 20000) n s nx lp), (20000, wrC n.wire)] (.d (.int .i64 (doF s nx lp n c a).2)) [(10000, wkB (.own 20000) (doF s nx lp n c a).1 s nx lp), (20000, wrC (doF s nx lp n c a).1.wire)] := by
  have v := lv_of hv
  have hs1 := v.s1
  have hn1 := v.n1
  obtain ⟨d1, d2, d3, d4⟩ := hd
  dsimp only at d1 d2 d3 d4
  have hol := h.d.len
  have hsl := h.sv.len
  have hodl : (n.d.ord.map (D.int .i64)).length = n.d.ord.length := by simp
  have hsvl : (n.sv.ord.map (D.int .i64)).length = n.sv.ord.length := by simp
  have hlf := h.life
  have hwl : (n.wire.map pkD).length = n.wire.length := by simp
  have hw10 := h.wl
  have hc : c = 1 \/ c = 2 \/ c = 3 \/ c = 4 \/ c = 5 \/ c = 6 \/ c = 7 \/ c = 8 \/ c = 9 := by omega
  rcases hc with rfl | rfl | rfl | rfl | rfl | rfl | rfl | rfl | rfl
  . unfold doF
    rw [if_pos rfl]
    by_cases h1 : (nx.length : Int) <= a
    . rw [if_pos h1]
      unfold wkB wrC deedD
      refine hc_intro tabIs _ Tryz.func45 rfl rfl Tryz.ntmps45 rfl rfl rfl ?_ fun w0 ok0 XM XA anc he0 hX0 => ?_
      . exact likeIn_cons rfl rfl fun p hp ha => by simp at hp; subst hp; cases ha
      repeat (first | refine zc ?_ | refine zk (e := by exact impl_letters) (n := ?_) | refine zv ?_)
      (refine zb ?_; refine u_rH [(10000, 10000), (20000, 20000)] ?_ ?_)
      . rfl
      . rfl
    . rw [if_neg h1]
      by_cases h2 : n.d.ord.length = 60
      . rw [if_pos h2]
        unfold wkB wrC deedD
        refine hc_intro tabIs _ Tryz.func45 rfl rfl Tryz.ntmps45 rfl rfl rfl ?_ fun w0 ok0 XM XA anc he0 hX0 => ?_
        . exact likeIn_cons rfl rfl fun p hp ha => by simp at hp; subst hp; cases ha
        repeat (first | refine zc ?_ | refine zk (e := by exact impl_letters) (n := ?_) | refine zv ?_)
        (refine zb ?_; refine u_rH [(10000, 10000), (20000, 20000)] ?_ ?_)
        . rfl
        . rfl
      . rw [if_neg h2]
        have e1 := impl_clip (ns := n.d.ord) (by omega)
        have ei : ints (n.d.ord ++ [a]) = .lst (n.d.ord.map (.int .i64) ++ [.int .i64 a]) := by simp [ints]
        have hint : ∀ z ∈ n.d.ord.map (D.int .i64), z.el = true /\ z.width = 1 := fun z hz => by
          obtain ⟨q, _, rfl⟩ := List.mem_map.1 hz
          exact ⟨rfl, rfl⟩
        unfold wkB wrC deedD
        dsimp only
        rw [ei]
        refine hc_intro tabIs _ Tryz.func45 rfl rfl Tryz.ntmps45 rfl rfl rfl ?_ fun w0 ok0 XM XA anc he0 hX0 => ?_
        . exact likeIn_cons rfl rfl fun p hp ha => by simp at hp; subst hp; cases ha
        repeat (first | refine zcn ?_ | refine zv ?_)
        refine u_d ?_
        repeat (first | refine zcn ?_ | refine zk (e := by exact impl_letters) (n := ?_) | refine zv ?_)
        refine awp_draw_tail 16 ?_ ?_ ?_ ?_
        . exact mixedIs
        . (as_aux_lemma => kernel_rfl)
        . exact rfl
        repeat (first | refine zc ?_ | ((first | apply x_l | apply x_q | apply x_lr | apply x_qr); (focus (first | (apply qv_append; (iterate 13 (focus (first | exact rfl | (first | assumption | omega | (simp; omega) | (simp; done) | rfl))))))); exact rfl) | refine zk (e := by exact e1) (n := ?_) | (apply v_x; (iterate 2 exact rfl); (focus (intro ok0 nw hle; (first | (apply qv_append; (iterate 13 (focus (first | exact rfl | (first | assumption | omega | (simp; omega) | (simp; done) | rfl)))))))); (iterate 2 exact rfl)) | refine zv ?_)
        (refine zb ?_; refine u_rH [(10000, 10000), (20000, 20000)] ?_ ?_)
        . rfl
        . rfl
  . unfold doF
    rw [if_neg (by decide), if_pos rfl]
    by_cases h1 : (n.sv.ord.length : Int) <= a
    . rw [if_pos h1]
      unfold wkB wrC deedD
      refine hc_intro tabIs _ Tryz.func45 rfl rfl Tryz.ntmps45 rfl rfl rfl ?_ fun w0 ok0 XM XA anc he0 hX0 => ?_
      . exact likeIn_cons rfl rfl fun p hp ha => by simp at hp; subst hp; cases ha
      repeat (first | refine zc ?_ | refine zk (e := by exact impl_size1) (n := ?_) | refine zv ?_)
      (refine zb ?_; refine u_rH [(10000, 10000), (20000, 20000)] ?_ ?_)
      . rfl
      . rfl
    . rw [if_neg h1]
      have hx : (n.sv.ord.map (D.int .i64))[a.toNat]? = some (.int .i64 (n.sv.ord.getD a.toNat 0)) := el_int2 (ns := n.sv.ord) (q := a) (by omega)
      have c1 := impl_sendH (n := n) (s := s) (nx := nx) (lp := lp) (p := ⟨false, n.sv.life, a, n.sv.ord.getD a.toNat 0⟩) h.wl
      generalize n.sv.ord.getD a.toNat 0 = x at *
      generalize sendF n ⟨false, n.sv.life, a, x⟩ = r at *
      unfold wkB wrC deedD pkD at *
      refine hc_intro tabIs _ Tryz.func45 rfl rfl Tryz.ntmps45 rfl rfl rfl ?_ fun w0 ok0 XM XA anc he0 hX0 => ?_
      . exact likeIn_cons rfl rfl fun p hp ha => by simp at hp; subst hp; cases ha
      repeat (first | refine zcn ?_ | refine zv ?_)
      refine u_d ?_
      repeat (first | refine zcn ?_ | refine zk (e := by exact impl_size1) (n := ?_) | refine zv ?_)
      refine awp_draw_tail 20 ?_ ?_ ?_ ?_
      . exact mixedIs
      . (as_aux_lemma => kernel_rfl)
      . exact rfl
      repeat (first | refine zc ?_ | refine zv ?_)
      refine hcl [(10000, 10000), (20000, 20000)] [(10000, 10000), (20000, 20000)] c1 ?_
      repeat (first | refine zc ?_ | refine zv ?_)
      (refine zb ?_; refine u_rH [(10000, 10000), (20000, 20000)] ?_ ?_)
      . rfl
      . rfl
  . unfold doF
    rw [if_neg (by decide), if_neg (by decide), if_pos rfl]
    have hst := h.st
    have hlp := v.lp
    have hx : (lp.map (D.int .i64))[n.st.toNat]? = some (.int .i64 (lamp lp n.st)) := el_int2 (ns := lp) (q := n.st) (by omega)
    have hlpl : (lp.map (D.int .i64)).length = lp.length := by simp
    have c1 := impl_sendH (n := n) (s := s) (nx := nx) (lp := lp) (p := ⟨true, n.life, n.tk, lamp lp n.st⟩) h.wl
    generalize lamp lp n.st = x at *
    generalize sendF n ⟨true, n.life, n.tk, x⟩ = r at *
    unfold wkB wrC deedD pkD at *
    refine hc_intro tabIs _ Tryz.func45 rfl rfl Tryz.ntmps45 rfl rfl rfl ?_ fun w0 ok0 XM XA anc he0 hX0 => ?_
    . exact likeIn_cons rfl rfl fun p hp ha => by simp at hp; subst hp; cases ha
    repeat (first | refine zcn ?_ | refine zv ?_)
    refine awp_draw_tail 24 ?_ ?_ ?_ ?_
    . exact mixedIs
    . (as_aux_lemma => kernel_rfl)
    . exact rfl
    repeat (first | refine zc ?_ | refine zv ?_)
    refine hcl [(10000, 10000), (20000, 20000)] [(10000, 10000), (20000, 20000)] c1 ?_
    repeat (first | refine zc ?_ | refine zv ?_)
    (refine zb ?_; refine u_rH [(10000, 10000), (20000, 20000)] ?_ ?_)
    . rfl
    . rfl
  . by_cases h1 : (n.wire.length : Int) <= a
    . have e : doF s nx lp n 4 a = (n, 2) := by unfold doF; rw [if_neg (by decide), if_neg (by decide), if_neg (by decide), if_neg (by decide), if_neg (by decide), if_neg (by decide), if_pos h1]
      rw [e]
      unfold wkB wrC deedD
      refine hc_intro tabIs _ Tryz.func45 rfl rfl Tryz.ntmps45 rfl rfl rfl ?_ fun w0 ok0 XM XA anc he0 hX0 => ?_
      . exact likeIn_cons rfl rfl fun p hp ha => by simp at hp; subst hp; cases ha
      repeat (first | refine zc ?_ | refine zk (e := by exact impl_sizeP) (n := ?_) | refine zv ?_)
      (refine zb ?_; refine u_rH [(10000, 10000), (20000, 20000)] ?_ ?_)
      . rfl
      . rfl
    . have e : doF s nx lp n 4 a = ({ inF s nx lp n (n.wire.getD a.toNat pk0) with wire := n.wire.eraseIdx a.toNat }, 0) := by unfold doF; rw [if_neg (by decide), if_neg (by decide), if_neg (by decide), if_neg (by decide), if_neg (by decide), if_neg (by decide), if_neg h1, if_neg (by decide), if_neg (by decide)]
      have hpk : PkOk s nx k (n.wire.getD a.toNat pk0) := by
        have : a.toNat < n.wire.length := by omega
        rw [List.getD_eq_getElem?_getD, List.getElem?_eq_getElem this]
        exact h.wire _ (List.getElem_mem this)
      have hx := pk_at (l := n.wire) (a := a) (by omega)
      have c2 := impl_deleteH (xs := n.wire) (a := a) d3 (by omega) (by omega)
      have h' : LnOk s nx k { n with wire := n.wire.eraseIdx a.toNat } := ⟨h.st, h.life, h.tk, h.d, h.sv, by have := List.length_eraseIdx_le n.wire a.toNat; show (n.wire.eraseIdx a.toNat).length <= 10; omega, fun p hp => h.wire p (List.mem_of_mem_eraseIdx hp)⟩
      have c1 := impl_comeInH v h' hpk hk
      have ei : wkB (.own 20000) (inF s nx lp { n with wire := n.wire.eraseIdx a.toNat } (n.wire.getD a.toNat pk0)) s nx lp = wkB (.own 20000) (inF s nx lp n (n.wire.getD a.toNat pk0)) s nx lp := by
        unfold inF
        split
        . rfl
        . split <;> rfl
      rw [ei] at c1
      rw [e]
      generalize n.wire.getD a.toNat pk0 = p at *
      generalize inF s nx lp n p = n' at *
      dsimp only at *
      generalize n.wire.eraseIdx a.toNat = w2 at *
      unfold wkB wrC deedD at *
      refine hc_intro tabIs _ Tryz.func45 rfl rfl Tryz.ntmps45 rfl rfl rfl ?_ fun w0 ok0 XM XA anc he0 hX0 => ?_
      . exact likeIn_cons rfl rfl fun p hp ha => by simp at hp; subst hp; cases ha
      repeat (first | refine zcn ?_ | refine zv ?_)
      refine u_d ?_
      repeat (first | refine zcn ?_ | refine zk (e := by exact impl_sizeP) (n := ?_) | refine zv ?_)
      refine u_m [(9, [6]), (10, [6])] (.tk [6] [0, 1, 2, 3, 4, 5, 6, 7, 8] (.tk [] [9, 10] .done)) ?_
      repeat (first | refine zcn ?_ | ((first | apply x_l | apply x_q | apply x_lr | apply x_qr); (focus (first | (apply wp_loadAgg; (iterate 6 (focus (first | exact rfl | (first | assumption | omega | (simp; omega) | (simp; done) | rfl))))))); exact rfl) | (apply v_x; (iterate 2 exact rfl); (focus (intro ok0 nw hle; (first | (apply wp_loadAgg; (iterate 6 (focus (first | exact rfl | (first | assumption | omega | (simp; omega) | (simp; done) | rfl)))))))); (iterate 2 exact rfl)) | refine zv ?_)
      refine u_m [(11, [20000]), (15, [10000])] (.tk [20000] [0] (.tk [] [1, 2, 3, 4, 5, 6, 7, 8, 9, 10, 11, 12, 13, 14, 15] .done)) ?_
      repeat (first | refine zc ?_ | refine zv ?_)
      refine hclM [(20000, 20000)] [(20000, 20000)] c2 ?_
      repeat (first | refine zc ?_ | refine zv ?_)
      refine hcl [(10000, 10000), (20000, 20000)] [(10000, 10000), (20000, 20000)] c1 ?_
      repeat (first | refine zc ?_ | refine zv ?_)
      (refine zb ?_; refine u_rH [(10000, 10000), (20000, 20000)] ?_ ?_)
      . rfl
      . rfl
  . by_cases h1 : (n.wire.length : Int) <= a
    . have e : doF s nx lp n 5 a = (n, 2) := by unfold doF; rw [if_neg (by decide), if_neg (by decide), if_neg (by decide), if_neg (by decide), if_neg (by decide), if_neg (by decide), if_pos h1]
      rw [e]
      unfold wkB wrC deedD
      refine hc_intro tabIs _ Tryz.func45 rfl rfl Tryz.ntmps45 rfl rfl rfl ?_ fun w0 ok0 XM XA anc he0 hX0 => ?_
      . exact likeIn_cons rfl rfl fun p hp ha => by simp at hp; subst hp; cases ha
      repeat (first | refine zc ?_ | refine zk (e := by exact impl_sizeP) (n := ?_) | refine zv ?_)
      (refine zb ?_; refine u_rH [(10000, 10000), (20000, 20000)] ?_ ?_)
      . rfl
      . rfl
    . have e : doF s nx lp n 5 a = ({ inF s nx lp n (n.wire.getD a.toNat pk0) with wire := n.wire }, 0) := by unfold doF; rw [if_neg (by decide), if_neg (by decide), if_neg (by decide), if_neg (by decide), if_neg (by decide), if_neg (by decide), if_neg h1, if_neg (by decide), if_pos rfl]
      have hpk : PkOk s nx k (n.wire.getD a.toNat pk0) := by
        have : a.toNat < n.wire.length := by omega
        rw [List.getD_eq_getElem?_getD, List.getElem?_eq_getElem this]
        exact h.wire _ (List.getElem_mem this)
      have hx := pk_at (l := n.wire) (a := a) (by omega)
      have c1 := impl_comeInH v h hpk hk
      rw [e]
      generalize n.wire.getD a.toNat pk0 = p at *
      generalize inF s nx lp n p = n' at *
      unfold wkB wrC deedD at *
      refine hc_intro tabIs _ Tryz.func45 rfl rfl Tryz.ntmps45 rfl rfl rfl ?_ fun w0 ok0 XM XA anc he0 hX0 => ?_
      . exact likeIn_cons rfl rfl fun p hp ha => by simp at hp; subst hp; cases ha
      repeat (first | refine zcn ?_ | refine zv ?_)
      refine u_d ?_
      repeat (first | refine zcn ?_ | refine zk (e := by exact impl_sizeP) (n := ?_) | refine zv ?_)
      refine u_m [(9, [6]), (10, [6])] (.tk [6] [0, 1, 2, 3, 4, 5, 6, 7, 8] (.tk [] [9, 10] .done)) ?_
      repeat (first | refine zcn ?_ | ((first | apply x_l | apply x_q | apply x_lr | apply x_qr); (focus (first | (apply wp_loadAgg; (iterate 6 (focus (first | exact rfl | (first | assumption | omega | (simp; omega) | (simp; done) | rfl))))))); exact rfl) | (apply v_x; (iterate 2 exact rfl); (focus (intro ok0 nw hle; (first | (apply wp_loadAgg; (iterate 6 (focus (first | exact rfl | (first | assumption | omega | (simp; omega) | (simp; done) | rfl)))))))); (iterate 2 exact rfl)) | refine zv ?_)
      refine hcl [(10000, 10000), (20000, 20000)] [(10000, 10000), (20000, 20000)] c1 ?_
      repeat (first | refine zc ?_ | refine zv ?_)
      (refine zb ?_; refine u_rH [(10000, 10000), (20000, 20000)] ?_ ?_)
      . rfl
      . rfl
  . by_cases h1 : (n.wire.length : Int) <= a
    . have e : doF s nx lp n 6 a = (n, 2) := by unfold doF; rw [if_neg (by decide), if_neg (by decide), if_neg (by decide), if_neg (by decide), if_neg (by decide), if_neg (by decide), if_pos h1]
      rw [e]
      unfold wkB wrC deedD
      refine hc_intro tabIs _ Tryz.func45 rfl rfl Tryz.ntmps45 rfl rfl rfl ?_ fun w0 ok0 XM XA anc he0 hX0 => ?_
      . exact likeIn_cons rfl rfl fun p hp ha => by simp at hp; subst hp; cases ha
      repeat (first | refine zc ?_ | refine zk (e := by exact impl_sizeP) (n := ?_) | refine zv ?_)
      (refine zb ?_; refine u_rH [(10000, 10000), (20000, 20000)] ?_ ?_)
      . rfl
      . rfl
    . have e : doF s nx lp n 6 a = ({ n with wire := n.wire.eraseIdx a.toNat }, 0) := by unfold doF; rw [if_neg (by decide), if_neg (by decide), if_neg (by decide), if_neg (by decide), if_neg (by decide), if_neg (by decide), if_neg h1, if_pos rfl, if_neg (by decide)]
      have hpk : PkOk s nx k (n.wire.getD a.toNat pk0) := by
        have : a.toNat < n.wire.length := by omega
        rw [List.getD_eq_getElem?_getD, List.getElem?_eq_getElem this]
        exact h.wire _ (List.getElem_mem this)
      have hx := pk_at (l := n.wire) (a := a) (by omega)
      have c2 := impl_deleteH (xs := n.wire) (a := a) d3 (by omega) (by omega)
      rw [e]
      generalize n.wire.getD a.toNat pk0 = p at *
      dsimp only at *
      generalize n.wire.eraseIdx a.toNat = w2 at *
      unfold wkB wrC deedD at *
      refine hc_intro tabIs _ Tryz.func45 rfl rfl Tryz.ntmps45 rfl rfl rfl ?_ fun w0 ok0 XM XA anc he0 hX0 => ?_
      . exact likeIn_cons rfl rfl fun p hp ha => by simp at hp; subst hp; cases ha
      repeat (first | refine zcn ?_ | refine zv ?_)
      refine u_d ?_
      repeat (first | refine zcn ?_ | refine zk (e := by exact impl_sizeP) (n := ?_) | refine zv ?_)
      refine u_m [(9, [6]), (10, [6])] (.tk [6] [0, 1, 2, 3, 4, 5, 6, 7, 8] (.tk [] [9, 10] .done)) ?_
      repeat (first | refine zcn ?_ | ((first | apply x_l | apply x_q | apply x_lr | apply x_qr); (focus (first | (apply wp_loadAgg; (iterate 6 (focus (first | exact rfl | (first | assumption | omega | (simp; omega) | (simp; done) | rfl))))))); exact rfl) | (apply v_x; (iterate 2 exact rfl); (focus (intro ok0 nw hle; (first | (apply wp_loadAgg; (iterate 6 (focus (first | exact rfl | (first | assumption | omega | (simp; omega) | (simp; done) | rfl)))))))); (iterate 2 exact rfl)) | refine zv ?_)
      refine u_m [(11, [20000]), (15, [10000])] (.tk [20000] [0] (.tk [] [1, 2, 3, 4, 5, 6, 7, 8, 9, 10, 11, 12, 13, 14, 15] .done)) ?_
      repeat (first | refine zc ?_ | refine zv ?_)
      refine hclM [(20000, 20000)] [(20000, 20000)] c2 ?_
      repeat (first | refine zc ?_ | refine zv ?_)
      (refine zb ?_; refine u_rH [(10000, 10000), (20000, 20000)] ?_ ?_)
      . rfl
      . rfl
  . unfold doF
    rw [if_neg (by decide), if_neg (by decide), if_neg (by decide), if_pos rfl]
    have e1 := impl_isStateA (s := s) (q := a) (nx := nx) (by omega)
    by_cases h1 : s <= a
    . rw [if_pos h1]
      rw [show inB a 0 (s - 1) = false by simp [inB]; omega] at e1
      unfold wkB wrC deedD
      refine hc_intro tabIs _ Tryz.func45 rfl rfl Tryz.ntmps45 rfl rfl rfl ?_ fun w0 ok0 XM XA anc he0 hX0 => ?_
      . exact likeIn_cons rfl rfl fun p hp ha => by simp at hp; subst hp; cases ha
      repeat (first | refine zc ?_ | refine zk (e := by exact e1) (n := ?_) | refine zv ?_)
      (refine zb ?_; refine u_rH [(10000, 10000), (20000, 20000)] ?_ ?_)
      . rfl
      . rfl
    . rw [if_neg h1]
      rw [show inB a 0 (s - 1) = true by simp [inB]; omega] at e1
      by_cases h2 : n.life = 6
      . rw [if_pos h2]
        unfold wkB wrC deedD
        refine hc_intro tabIs _ Tryz.func45 rfl rfl Tryz.ntmps45 rfl rfl rfl ?_ fun w0 ok0 XM XA anc he0 hX0 => ?_
        . exact likeIn_cons rfl rfl fun p hp ha => by simp at hp; subst hp; cases ha
        repeat (first | refine zc ?_ | refine zk (e := by exact e1) (n := ?_) | refine zv ?_)
        (refine zb ?_; refine u_rH [(10000, 10000), (20000, 20000)] ?_ ?_)
        . rfl
        . rfl
      . rw [if_neg h2]
        unfold wkB wrC deedD
        refine hc_intro tabIs _ Tryz.func45 rfl rfl Tryz.ntmps45 rfl rfl rfl ?_ fun w0 ok0 XM XA anc he0 hX0 => ?_
        . exact likeIn_cons rfl rfl fun p hp ha => by simp at hp; subst hp; cases ha
        repeat (first | refine zcn ?_ | refine zk (e := by exact e1) (n := ?_) | refine zv ?_)
        refine u_m [(1, []), (2, []), (14, [10000]), (18, [10000]), (22, [10000])] (.tk [] [0, 3, 4, 5, 6, 7, 8, 9] (.tk [10000] [10] (.tk [] [11, 12, 13] (.fork3 1 2 14 (.fork 2 14 (.tk [] [14, 15, 16, 17, 18, 19, 20, 21, 22] .done) (.tk [] [15, 16, 17] (.fork 2 18 (.tk [] [18, 19, 20, 21, 22] .done) (.tk [] [2, 19, 20, 21, 22] .done)))) (.fork 1 14 (.tk [] [14, 15, 16, 17, 18, 19, 20, 21, 22] .done) (.tk [] [1, 15, 16, 17, 18, 19, 20, 21, 22] .done)) (.fork 1 2 (.tk [] [15, 16, 17] (.fork 2 18 (.tk [] [18, 19, 20, 21, 22] .done) (.tk [] [2, 19, 20, 21, 22] .done))) (.tk [] [1, 15, 16, 17, 18, 19, 20, 21, 22] .done)))))) ?_
        repeat (first | refine zc ?_ | refine zv ?_)
        refine m_fork3 ?_ ?_ ?_
        all_goals repeat' (first | refine m_fork ?_ ?_ | refine m_fork3 ?_ ?_ ?_ | refine zc ?_ | refine zv ?_)
        all_goals (repeat (first | refine zc ?_ | refine zv ?_))
        all_goals (refine zb ?_; refine u_rH [(10000, 10000), (20000, 20000)] ?_ ?_)
        all_goals rfl
  . unfold doF
    rw [if_neg (by decide), if_neg (by decide), if_neg (by decide), if_neg (by decide), if_pos rfl]
    have e1 := impl_copied (d := n.d) (by omega) (h.d.bel_len (by omega))
    unfold wkB wrC deedD dskD dskL at *
    refine hc_intro tabIs _ Tryz.func45 rfl rfl Tryz.ntmps45 rfl rfl rfl ?_ fun w0 ok0 XM XA anc he0 hX0 => ?_
    . exact likeIn_cons rfl rfl fun p hp ha => by simp at hp; subst hp; cases ha
    repeat (first | refine zc ?_ | refine zk (e := by exact e1) (n := ?_) | refine zv ?_)
    (refine zb ?_; refine u_rH [(10000, 10000), (20000, 20000)] ?_ ?_)
    . rfl
    . rfl
  . unfold doF
    rw [if_neg (by decide), if_neg (by decide), if_neg (by decide), if_neg (by decide), if_neg (by decide), if_pos rfl]
    have e1 := impl_copied (d := n.sv) (by omega) (h.sv.bel_len (by omega))
    unfold wkB wrC deedD dskD dskL at *
    refine hc_intro tabIs _ Tryz.func45 rfl rfl Tryz.ntmps45 rfl rfl rfl ?_ fun w0 ok0 XM XA anc he0 hX0 => ?_
    . exact likeIn_cons rfl rfl fun p hp ha => by simp at hp; subst hp; cases ha
    repeat (first | refine zc ?_ | refine zk (e := by exact e1) (n := ?_) | refine zv ?_)
    (refine zb ?_; refine u_rH [(10000, 10000), (20000, 20000)] ?_ ?_)
    . rfl
    . rfl
end Go.Proofs.YtffmlijngfhhaaaGreatDoor
