/- Lines of machines in the reference: packets and deeds. No condition. -/
import Derived.Test.YtffmlijngfhhaaaGreatDoorOa
import Derived.Test.YtffmlijngfhhaaaGreatDoorNa
import Derived.Test.YtffmlijngfhhaaaGreatDoorSf
import Derived.Test.YtffmlijngfhhaaaGreatDoorFwZ
import Derived.Test.YtffmlijngfhhaaaGreatDoorFwW
import Derived.Test.YtffmlijngfhhaaaGreatDoorFwX
namespace Go.Proofs.YtffmlijngfhhaaaGreatDoor
open Go
attribute [local irreducible] awp awpL awpQL awpQ awpM pWalk Qt AC thenQ blockQ loopQ OpTo
set_option linter.unusedVariables false
set_option linter.unusedSimpArgs false
set_option maxHeartbeats 2000000
attribute [local irreducible] HC
def ltD (s : Int) (nx : List (List Int)) (lp : List Int) : D := .agg [.int .i64 s, rows nx, ints lp]
def lnB (w : SV) (n : Ln) : Chunk := .box [.d (.int .i64 n.st), .d (.int .i64 n.life), .d (.int .i64 n.tk), .d (.int .i64 n.d.life), .d (ints n.d.ord), .d (.int .i64 n.d.sure), .d (ints n.d.bel), .d (.int .i64 n.sv.life), .d (ints n.sv.ord), .d (.int .i64 n.sv.sure), .d (ints n.sv.bel), w]
def wrC (l : List Pk) : Chunk := .arr 93 4 (l.map pkD)
theorem pk_el (l : List Pk) : ∀ x ∈ l.map pkD, x.el = true /\ x.width = 4 := fun x hx => by
  obtain ⟨p, _, rfl⟩ := List.mem_map.1 hx
  exact ⟨rfl, rfl⟩
theorem seg_part (l : List Int) (a b : Int) : partD (l.map (D.int .i64)) a.toNat b.toNat = (seg l a b).map (.int .i64) := by
  unfold partD seg
  rw [List.map_take, List.map_drop]
theorem pk_at {l : List Pk} {a : Int} (h : 0 <= a /\ a < l.length) : (l.map pkD)[a.toNat]? = some (pkD (l.getD a.toNat pk0)) := by
  have : a.toNat < l.length := by omega
  simp [List.getD_eq_getElem?_getD, this]
theorem spec_l00Own {ns : List Int} (hn : ns.length <= 1048576) : AC Tryz.prog 139 [ints ns] (ints ns) := ac_of_hc (spec_l00OwnH hn) rfl
theorem spec_l08Own {d : Dsk} (h1 : d.ord.length <= 60) (h2 : d.bel.length <= 10) : AC Tryz.prog 137 [.ptr (dskD d)] (dskD d) := by
  have e1 := spec_l00Own (ns := d.ord) (by omega)
  have e2 := spec_l00Own (ns := d.bel) (by omega)
  unfold dskD dskL
  refine ac_introC tabIs _ Tryz.func137 rfl rfl Tryz.ntmps137 rfl rfl fun w0 ok0 he0 => ?_
  repeat (first | refine zc ?_ | refine zk (e := by exact e1) (n := ?_) | refine zk (e := by exact e2) (n := ?_) | refine zv ?_)
  refine ztC ?_
  rfl
theorem spec_l08OwnD {n : Ln} (h1 : n.d.ord.length <= 60) (h2 : n.d.bel.length <= 10) : HC Tryz.prog 137 [.ref 10000 3] [(10000, lnB (.own 20000) n), (20000, wrC n.wire)] (.d (dskD n.d)) [(10000, lnB (.own 20000) n), (20000, wrC n.wire)] := by
  have e1 := spec_l00Own (ns := n.d.ord) (by omega)
  have e2 := spec_l00Own (ns := n.d.bel) (by omega)
  unfold dskD dskL lnB wrC
  refine hc_intro tabIs _ Tryz.func137 rfl rfl Tryz.ntmps137 rfl rfl rfl ?_ fun w0 ok0 XM XA anc he0 hX0 => ?_
  . exact likeIn_cons rfl rfl fun p hp ha => by simp at hp; subst hp; cases ha
  repeat (first | refine zc ?_ | refine zk (e := by exact e1) (n := ?_) | refine zk (e := by exact e2) (n := ?_) | refine zv ?_)
  (refine zb ?_; refine u_rH [(10000, 10000), (20000, 20000)] ?_ ?_)
  . rfl
  . rfl
theorem spec_l08OwnS {n : Ln} (h1 : n.sv.ord.length <= 60) (h2 : n.sv.bel.length <= 10) : HC Tryz.prog 137 [.ref 10000 7] [(10000, lnB (.own 20000) n), (20000, wrC n.wire)] (.d (dskD n.sv)) [(10000, lnB (.own 20000) n), (20000, wrC n.wire)] := by
  have e1 := spec_l00Own (ns := n.sv.ord) (by omega)
  have e2 := spec_l00Own (ns := n.sv.bel) (by omega)
  unfold dskD dskL lnB wrC
  refine hc_intro tabIs _ Tryz.func137 rfl rfl Tryz.ntmps137 rfl rfl rfl ?_ fun w0 ok0 XM XA anc he0 hX0 => ?_
  . exact likeIn_cons rfl rfl fun p hp ha => by simp at hp; subst hp; cases ha
  repeat (first | refine zc ?_ | refine zk (e := by exact e1) (n := ?_) | refine zk (e := by exact e2) (n := ?_) | refine zv ?_)
  (refine zb ?_; refine u_rH [(10000, 10000), (20000, 20000)] ?_ ?_)
  . rfl
  . rfl
theorem spec_l08Begin {s st : Int} {nx : List (List Int)} {lp : List Int} (hs : 0 <= s /\ s <= 10) :
    AC Tryz.prog 87 [.ptr (ltD s nx lp), .int .i64 st] (.agg [.int .i64 st, .int .i64 0, .int .i64 0, .int .i64 0, ints [], .int .i64 0, ints (mk1 0 s.toNat), .int .i64 0, ints [], .int .i64 0, ints (mk1 0 s.toNat), .nils]) := by
  have e1 := spec_l01All (s := s) (by omega)
  have e2 := spec_l08Own (d := dsk0 s) (by simp [dsk0]) (by show (mk1 0 s.toNat).length <= 10; rw [mk1_length]; omega)
  unfold ltD
  unfold dskD dskL dsk0 at e2
  refine ac_introC tabIs _ Tryz.func87 rfl rfl Tryz.ntmps87 rfl rfl fun w0 ok0 he0 => ?_
  repeat (first | refine zcn ?_ | refine zk (e := by exact e1) (n := ?_) | refine zv ?_)
  refine awp_freezeB 5 rfl rfl rfl ?_
  repeat (first | refine zc ?_ | refine zk (e := by exact e2) (n := ?_) | refine zv ?_)
  refine ztC ?_
  rfl
theorem spec_l08Send {n : Ln} {p : Pk} (hw : n.wire.length <= 10) : HC Tryz.prog 140 [.ref 10000 0, .d (pkD p)] [(10000, lnB (.own 20000) n), (20000, wrC n.wire)] (.d (.int .i64 (sendF n p).2)) [(10000, lnB (.own 20000) (sendF n p).1), (20000, wrC (sendF n p).1.wire)] := by
  have hl : (n.wire.map pkD).length = n.wire.length := by simp
  unfold sendF
  by_cases hc : n.wire.length = 10
  . rw [if_pos hc]
    unfold lnB wrC pkD
    unfold pkD at hl
    refine hc_intro tabIs _ Tryz.func140 rfl rfl Tryz.ntmps140 rfl rfl rfl ?_ fun w0 ok0 XM XA anc he0 hX0 => ?_
    . exact likeIn_cons rfl rfl fun p hp ha => by simp at hp; subst hp; cases ha
    repeat (first | refine zc ?_ | refine zv ?_)
    (refine zb ?_; refine u_rH [(10000, 10000), (20000, 20000)] ?_ ?_)
    . rfl
    . rfl
  . rw [if_neg hc]
    have e : wrC (n.wire ++ [p]) = .arr 93 4 (n.wire.map pkD ++ [pkD p]) := by simp [wrC]
    show HC _ _ _ _ _ [(10000, lnB (.own 20000) n), (20000, wrC (n.wire ++ [p]))]
    rw [e]
    unfold lnB wrC pkD
    unfold pkD at hl
    refine hc_intro tabIs _ Tryz.func140 rfl rfl Tryz.ntmps140 rfl rfl rfl ?_ fun w0 ok0 XM XA anc he0 hX0 => ?_
    . exact likeIn_cons rfl rfl fun p hp ha => by simp at hp; subst hp; cases ha
    repeat (first | refine zcn ?_ | refine zv ?_)
    refine u_m [(7, [20000]), (10, [10000])] (.tk [20000] [0] (.tk [] [1, 2, 3, 4, 5, 6, 7, 8, 9, 10] .done)) ?_
    repeat (first | refine zc ?_ | refine zv ?_)
    (refine zb ?_; refine u_rH [(10000, 10000), (20000, 20000)] ?_ ?_)
    . rfl
    . rfl
theorem spec_l08Read {s : Int} {nx : List (List Int)} {lp : List Int} {k : Nat} {n : Ln} {p : Pk} (v : LV s nx lp) (h : DskOk s nx n.d) (hp : PkOk s nx k p) :
    HC Tryz.prog 188 [.d (.ptr (ltD s nx lp)), .ref 10000 3, .d (pkD p)] [(10000, lnB (.own 20000) n), (20000, wrC n.wire)] (.d (.tup [])) [(10000, lnB (.own 20000) { n with d := readF s nx lp n.d p }), (20000, wrC n.wire)] := by
  have hs := v.s1
  have e1 := spec_l01All (s := s) (by omega)
  have ho := openF_ok (by omega) h hp
  have hbl := ho.bel_len (by omega)
  obtain ⟨st, lf, tk, ⟨dl, od, su, be⟩, sv, wire⟩ := n
  have b2 : od.length <= 60 := h.len
  have b3 : 0 <= su /\ su <= od.length := h.sure
  have hpn := hp.num
  have hel := elsOk_ints od
  have hol : (od.map (D.int .i64)).length = od.length := by simp
  by_cases h1 : dl < p.life
  . have hof : openF s ⟨dl, od, su, be⟩ p = ⟨p.life, [], 0, mk1 0 s.toNat⟩ := if_pos h1
    unfold readF
    simp only [hof] at ho hbl ⊢
    by_cases h2 : p.num = 0
    . rw [if_pos (by simp; omega)]
      have hsg : seg [] 0 p.num = [] := by simp [seg]
      rw [hsg]
      have e2 := spec_l01Image (l := mk1 0 s.toNat) (w := []) v ho.bel (by omega) (by simp) (by simp)
      have e3 := spec_l08With (l := imgL nx (mk1 0 s.toNat) []) (x := p.val) v (fun q hq => by
        obtain ⟨q0, hq0, e⟩ := ((imgL_spec nx (mk1 0 s.toNat) []).2 q).1 hq
        have e : q = q0 := e
        rw [e]
        exact ho.bel q0 hq0) (by have := imgL_length nx (mk1 0 s.toNat) []; omega)
      have e4 := spec_l00In (n := p.num) (lo := 0) (hi := (([] : List D).length : Nat))
      rw [show inB p.num 0 (([] : List D).length : Nat) = true by rw [h2]; rfl] at e4
      have hpd : partD [] (0 : Int).toNat p.num.toNat = [] := by simp [partD]
      have hel0 : elsOk 1 ([] : List D) = true := rfl
      unfold ints at e2
      rw [show List.map (D.int .i64) [] = partD [] (0 : Int).toNat p.num.toNat from hpd.symm] at e2
      unfold lnB wrC pkD ltD
      refine hc_intro tabIs _ Tryz.func188 rfl rfl Tryz.ntmps188 rfl rfl rfl ?_ fun w0 ok0 XM XA anc he0 hX0 => ?_
      . exact likeIn_cons rfl rfl fun p hp ha => by simp at hp; subst hp; cases ha
      repeat (first | refine zc ?_ | ((first | apply x_l | apply x_q | apply x_lr | apply x_qr); (focus (first | (apply qa_slice_lh; (iterate 10 (focus (first | exact rfl | (first | assumption | omega | (simp; omega) | (simp; done) | rfl))))))); exact rfl) | refine zk (e := by exact e1) (n := ?_) | refine zk (e := by exact e4) (n := ?_) | refine zk (e := by exact e2) (n := ?_) | refine zk (e := by exact e3) (n := ?_) | (apply v_x; (iterate 2 exact rfl); (focus (intro ok0 nw hle; (first | (apply qa_slice_lh; (iterate 10 (focus (first | exact rfl | (first | assumption | omega | (simp; omega) | (simp; done) | rfl)))))))); (iterate 2 exact rfl)) | refine zv ?_ | refine zg ?_)
      (refine u_eH [(10000, 10000), (20000, 20000)] ?_ ?_)
      . rfl
      . rfl
    . have e4 := spec_l00In (n := p.num) (lo := 0) (hi := (([] : List D).length : Nat))
      rw [show inB p.num 0 (([] : List D).length : Nat) = false by simp [inB]; omega] at e4
      rw [if_neg (by simp; omega)]
      unfold lnB wrC pkD ltD
      refine hc_intro tabIs _ Tryz.func188 rfl rfl Tryz.ntmps188 rfl rfl rfl ?_ fun w0 ok0 XM XA anc he0 hX0 => ?_
      . exact likeIn_cons rfl rfl fun p hp ha => by simp at hp; subst hp; cases ha
      repeat (first | refine zc ?_ | refine zk (e := by exact e1) (n := ?_) | refine zk (e := by exact e4) (n := ?_) | refine zv ?_ | refine zg ?_)
      (refine zb ?_; refine u_rH [(10000, 10000), (20000, 20000)] ?_ ?_)
      . rfl
      . rfl
  . have hof : openF s ⟨dl, od, su, be⟩ p = ⟨dl, od, su, be⟩ := if_neg h1
    unfold readF
    simp only [hof] at ho hbl ⊢
    by_cases h2 : p.life = dl /\ su <= p.num /\ p.num <= od.length
    . rw [if_pos h2]
      have e2 := spec_l01Image (l := be) (w := seg od su p.num) v ho.bel (by omega) (by have := seg_len (l := od) (a := su) (b := p.num); omega) fun l hl => ho.ord l (mem_seg hl)
      have e3 := spec_l08With (l := imgL nx be (seg od su p.num)) (x := p.val) v (fun q hq => by
        obtain ⟨q0, hq0, rfl⟩ := ((imgL_spec nx be (seg od su p.num)).2 q).1 hq
        exact runS_range v.nx _ (ho.bel q0 hq0) fun l hl => ho.ord l (mem_seg hl)) (by have := imgL_length nx be (seg od su p.num); omega)
      unfold ints at e2
      rw [<- seg_part] at e2
      have e4 := spec_l00In (n := p.num) (lo := su) (hi := ((od.map (D.int .i64)).length : Nat))
      rw [show inB p.num su ((od.map (D.int .i64)).length : Nat) = true by simp [inB]; omega] at e4
      unfold lnB wrC pkD ltD
      refine hc_intro tabIs _ Tryz.func188 rfl rfl Tryz.ntmps188 rfl rfl rfl ?_ fun w0 ok0 XM XA anc he0 hX0 => ?_
      . exact likeIn_cons rfl rfl fun p hp ha => by simp at hp; subst hp; cases ha
      repeat (first | refine zc ?_ | ((first | apply x_l | apply x_q | apply x_lr | apply x_qr); (focus (first | (apply qa_slice_lh; (iterate 10 (focus (first | exact rfl | (first | assumption | omega | (simp; omega) | (simp; done) | rfl))))))); exact rfl) | refine zk (e := by exact e4) (n := ?_) | refine zk (e := by exact e2) (n := ?_) | refine zk (e := by exact e3) (n := ?_) | (apply v_x; (iterate 2 exact rfl); (focus (intro ok0 nw hle; (first | (apply qa_slice_lh; (iterate 10 (focus (first | exact rfl | (first | assumption | omega | (simp; omega) | (simp; done) | rfl)))))))); (iterate 2 exact rfl)) | refine zv ?_ | refine zg ?_)
      (refine u_eH [(10000, 10000), (20000, 20000)] ?_ ?_)
      . rfl
      . rfl
    . rw [if_neg h2]
      have e4 := spec_l00In (n := p.num) (lo := su) (hi := ((od.map (D.int .i64)).length : Nat))
      by_cases h3 : p.life = dl
      . rw [show inB p.num su ((od.map (D.int .i64)).length : Nat) = false by simp [inB]; omega] at e4
        unfold lnB wrC pkD ltD
        refine hc_intro tabIs _ Tryz.func188 rfl rfl Tryz.ntmps188 rfl rfl rfl ?_ fun w0 ok0 XM XA anc he0 hX0 => ?_
        . exact likeIn_cons rfl rfl fun p hp ha => by simp at hp; subst hp; cases ha
        repeat (first | refine zc ?_ | refine zk (e := by exact e4) (n := ?_) | refine zv ?_ | refine zg ?_)
        (refine zb ?_; refine u_rH [(10000, 10000), (20000, 20000)] ?_ ?_)
        . rfl
        . rfl
      . unfold lnB wrC pkD ltD
        refine hc_intro tabIs _ Tryz.func188 rfl rfl Tryz.ntmps188 rfl rfl rfl ?_ fun w0 ok0 XM XA anc he0 hX0 => ?_
        . exact likeIn_cons rfl rfl fun p hp ha => by simp at hp; subst hp; cases ha
        repeat (first | refine zc ?_ | refine zv ?_ | refine zg ?_)
        (refine zb ?_; refine u_rH [(10000, 10000), (20000, 20000)] ?_ ?_)
        . rfl
        . rfl
theorem spec_l08In {s : Int} {nx : List (List Int)} {lp : List Int} {k : Nat} {n : Ln} {p : Pk} (v : LV s nx lp) (h : LnOk s nx k n) (hp : PkOk s nx k p) (hk : k <= 1000) :
    HC Tryz.prog 167 [.d (.ptr (ltD s nx lp)), .ref 10000 0, .d (pkD p)] [(10000, lnB (.own 20000) n), (20000, wrC n.wire)] (.d (.tup [])) [(10000, lnB (.own 20000) (inF s nx lp n p)), (20000, wrC n.wire)] := by
  have c1 := spec_l08Read (n := n) v h.d hp
  have htk := h.tk
  have hst := h.st
  unfold inF
  by_cases hr : p.rep = true
  . rw [if_pos hr]
    unfold lnB wrC pkD ltD at *
    rw [hr] at c1 ⊢
    refine hc_intro tabIs _ Tryz.func167 rfl rfl Tryz.ntmps167 rfl rfl rfl ?_ fun w0 ok0 XM XA anc he0 hX0 => ?_
    . exact likeIn_cons rfl rfl fun p hp ha => by simp at hp; subst hp; cases ha
    repeat (first | refine zcn ?_ | refine zv ?_)
    refine awp_draw_tail 5 ?_ ?_ ?_ ?_
    . exact mixedIs
    . (as_aux_lemma => kernel_rfl)
    . exact rfl
    repeat (first | refine zcn ?_ | refine zv ?_)
    refine hcl [(10000, 10000), (20000, 20000)] [(10000, 10000), (20000, 20000)] c1 ?_
    repeat (first | refine zc ?_ | refine zv ?_)
    (refine zb ?_; refine u_rH [(10000, 10000), (20000, 20000)] ?_ ?_)
    . rfl
    . rfl
  . rw [if_neg hr]
    have hrf : p.rep = false := by simpa using hr
    by_cases h1 : p.life = n.life
    . by_cases h2 : p.num = n.tk
      . rw [if_pos ⟨h1, h2⟩]
        have hl := hp.vo hrf
        have r1 := el_row2 hl
        have l1 := tbl_row v.nx hl
        have q1 : (List.map (D.int .i64) (row nx p.val))[n.st.toNat]? = some (.int .i64 (at2 nx p.val n.st)) := el_int2 (ns := row nx p.val) (q := n.st) (by omega)
        unfold lnB wrC pkD ltD
        rw [hrf]
        refine hc_intro tabIs _ Tryz.func167 rfl rfl Tryz.ntmps167 rfl rfl rfl ?_ fun w0 ok0 XM XA anc he0 hX0 => ?_
        . exact likeIn_cons rfl rfl fun p hp ha => by simp at hp; subst hp; cases ha
        repeat (first | refine zc ?_ | refine zv ?_ | refine zg ?_)
        (refine u_eH [(10000, 10000), (20000, 20000)] ?_ ?_)
        . rfl
        . rfl
      . rw [if_neg fun e => h2 e.2]
        unfold lnB wrC pkD ltD
        rw [hrf]
        refine hc_intro tabIs _ Tryz.func167 rfl rfl Tryz.ntmps167 rfl rfl rfl ?_ fun w0 ok0 XM XA anc he0 hX0 => ?_
        . exact likeIn_cons rfl rfl fun p hp ha => by simp at hp; subst hp; cases ha
        repeat (first | refine zc ?_ | refine zv ?_ | refine zg ?_)
        (refine u_eH [(10000, 10000), (20000, 20000)] ?_ ?_)
        . rfl
        . rfl
    . rw [if_neg fun e => h1 e.1]
      unfold lnB wrC pkD ltD
      rw [hrf]
      refine hc_intro tabIs _ Tryz.func167 rfl rfl Tryz.ntmps167 rfl rfl rfl ?_ fun w0 ok0 XM XA anc he0 hX0 => ?_
      . exact likeIn_cons rfl rfl fun p hp ha => by simp at hp; subst hp; cases ha
      repeat (first | refine zc ?_ | refine zv ?_ | refine zg ?_)
      (refine u_eH [(10000, 10000), (20000, 20000)] ?_ ?_)
      . rfl
      . rfl
end Go.Proofs.YtffmlijngfhhaaaGreatDoor
namespace Go.Proofs.YtffmlijngfhhaaaGreatDoor
open Go
attribute [local irreducible] awp awpL awpQL awpQ awpM pWalk Qt AC thenQ blockQ loopQ OpTo
set_option linter.unusedVariables false
set_option linter.unusedSimpArgs false
set_option maxHeartbeats 2000000
attribute [local irreducible] HC
theorem pk_erase (l : List Pk) (a : Nat) : (l.eraseIdx a).map pkD = (l.map pkD).take a ++ (l.map pkD).drop (a + 1) := by
  rw [List.eraseIdx_eq_take_drop_succ, List.map_append, List.map_take, List.map_drop]
theorem wp_loadAgg {cx : Cx} {h : Heap} {dst : Option Nat} {ty : Nat} {pos : String} {af : Array Edge} {gd : Option (Nat × Bool)} {T : Nat} {x : Operand} {tr : TR} {f : Nat -> SV} {id i e sz : Nat} {xs zs : List D} (hx : opv f x = .elt id i) (hg : h.get id = some (.arr e sz xs)) (ht : tget cx.T T = some tr) (ha : tr.agg = true) (hy : xs[i]? = some (.agg zs)) (hl : zs.length = tr.size) :
    Qt cx h ⟨dst, .load T x, ty, pos, af, gd⟩ f (.d (.agg zs)) := qa_loadElt hx hg hy ht (.inr ⟨ha, zs, rfl, hl⟩)
theorem spec_l08Wire5 {s a : Int} {nx : List (List Int)} {lp : List Int} {k : Nat} {n : Ln} (v : LV s nx lp) (h : LnOk s nx k n) (hk : k <= 1000) (ha : 0 <= a /\ a <= 999) (hlt : a < n.wire.length) :
    HC Tryz.prog 141 [.d (.ptr (ltD s nx lp)), .ref 10000 0, .d (deedD (5, a))] [(10000, lnB (.own 20000) n), (20000, wrC n.wire)] (.d (.int .i64 0)) [(10000, lnB (.own 20000) (inF s nx lp n (n.wire.getD a.toNat pk0))), (20000, wrC n.wire)] := by
  have hpk : PkOk s nx k (n.wire.getD a.toNat pk0) := by
    have : a.toNat < n.wire.length := by omega
    rw [List.getD_eq_getElem?_getD, List.getElem?_eq_getElem this]
    exact h.wire _ (List.getElem_mem this)
  have c1 := spec_l08In v h hpk hk
  have hx := pk_at (l := n.wire) (a := a) (by omega)
  have hwl : (n.wire.map pkD).length = n.wire.length := by simp
  generalize n.wire.getD a.toNat pk0 = p at *
  generalize inF s nx lp n p = n' at *
  unfold lnB wrC ltD deedD at *
  refine hc_intro tabIs _ Tryz.func141 rfl rfl Tryz.ntmps141 rfl rfl rfl ?_ fun w0 ok0 XM XA anc he0 hX0 => ?_
  . exact likeIn_cons rfl rfl fun p hp ha => by simp at hp; subst hp; cases ha
  repeat (first | refine zcn ?_ | refine zv ?_)
  refine u_d ?_
  repeat (first | refine zcn ?_ | refine zv ?_)
  refine awp_draw_tail 10 ?_ ?_ ?_ ?_
  . exact mixedIs
  . (as_aux_lemma => kernel_rfl)
  . exact rfl
  repeat (first | refine zcn ?_ | ((first | apply x_l | apply x_q | apply x_lr | apply x_qr); (focus (first | (apply wp_loadAgg; (iterate 6 (focus (first | exact rfl | (first | assumption | omega | (simp; omega) | (simp; done) | rfl))))))); exact rfl) | (apply v_x; (iterate 2 exact rfl); (focus (intro ok0 nw hle; (first | (apply wp_loadAgg; (iterate 6 (focus (first | exact rfl | (first | assumption | omega | (simp; omega) | (simp; done) | rfl)))))))); (iterate 2 exact rfl)) | refine zv ?_)
  refine hcl [(10000, 10000), (20000, 20000)] [(10000, 10000), (20000, 20000)] c1 ?_
  repeat (first | refine zc ?_ | refine zv ?_)
  (refine zb ?_; refine u_rH [(10000, 10000), (20000, 20000)] ?_ ?_)
  . rfl
  . rfl
theorem elsOk_of {size : Nat} : ∀ {ys : List D}, (∀ y ∈ ys, y.el = true /\ y.width = size) -> elsOk size ys = true
  | [], _ => rfl
  | y :: ys, h => by
    simp only [elsOk, Bool.and_eq_true]
    exact ⟨⟨(h y (List.mem_cons_self ..)).1, by rw [(h y (List.mem_cons_self ..)).2]; exact Nat.beq_refl _⟩, elsOk_of fun z hz => h z (List.mem_cons_of_mem _ hz)⟩
theorem partOf_mem {i : Nat} {ys : List D} {y : D} (h : y ∈ partOf i ys) : y ∈ ys := by
  unfold partOf at h
  split at h
  . exact List.mem_of_mem_drop h
  . exact List.mem_of_mem_take h
theorem partOf_len {i : Nat} {ys : List D} : (partOf i ys).length <= ys.length := by
  unfold partOf
  split <;> simp <;> omega
theorem part_from {m : Nat} {ys : List D} : partOf (2 * m) ys = ys.drop m := by
  unfold partOf
  rw [if_pos (by omega), show 2 * m / 2 = m by omega]
theorem part_to {m : Nat} {ys : List D} : partOf (2 * m + 1) ys = ys.take m := by
  unfold partOf
  rw [if_neg (by omega), show (2 * m + 1) / 2 = m by omega]
theorem spec_l08Wire6 {s a : Int} {nx : List (List Int)} {lp : List Int} {k : Nat} {n : Ln} (v : LV s nx lp) (h : LnOk s nx k n) (hk : k <= 1000) (ha : 0 <= a /\ a <= 999) (hlt : a < n.wire.length) :
    HC Tryz.prog 141 [.d (.ptr (ltD s nx lp)), .ref 10000 0, .d (deedD (6, a))] [(10000, lnB (.own 20000) n), (20000, wrC n.wire)] (.d (.int .i64 0)) [(10000, lnB (.own 20000) n), (20000, wrC (n.wire.eraseIdx a.toNat))] := by
  have hwl : (n.wire.map pkD).length = n.wire.length := by simp
  have hw10 := h.wl
  have he : wrC (n.wire.eraseIdx a.toNat) = .arr 93 4 ((n.wire.map pkD).take a.toNat ++ (n.wire.map pkD).drop (a.toNat + 1)) := by rw [<- pk_erase]; rfl
  rw [he]
  have hp1 := partOf_len (i := 2 * (a + 1).toNat) (ys := n.wire.map pkD)
  have hp2 := partOf_len (i := 2 * a.toNat + 1) (ys := n.wire.map pkD)
  have hels : elsOk 4 ([] ++ partOf (2 * (a + 1).toNat) (n.wire.map pkD)) = true := elsOk_of fun y hy => pk_el n.wire y (partOf_mem hy)
  have hfin : ([] ++ partOf (2 * a.toNat + 1) (n.wire.map pkD)) ++ ([] ++ partOf (2 * (a + 1).toNat) (n.wire.map pkD)) = (n.wire.map pkD).take a.toNat ++ (n.wire.map pkD).drop (a.toNat + 1) := by
    rw [part_from, part_to, show (a + 1).toNat = a.toNat + 1 by omega]
    rfl
  unfold lnB wrC ltD deedD at *
  refine hc_intro tabIs _ Tryz.func141 rfl rfl Tryz.ntmps141 rfl rfl rfl ?_ fun w0 ok0 XM XA anc he0 hX0 => ?_
  . exact likeIn_cons rfl rfl fun p hp ha => by simp at hp; subst hp; cases ha
  repeat (first | refine zcn ?_ | refine zv ?_)
  refine u_d ?_
  repeat (first | refine zcn ?_ | refine zv ?_)
  refine u_m [(0, [33]), (9, [33])] (.tk [33] [1, 2, 3, 4, 5, 6, 7, 8] (.tk [] [0, 9, 10] .done)) ?_
  repeat (first | refine v_w (t := 33) ?_ | refine zc ?_ | refine u_w (t := 33) ?_ | ((first | apply x_l | apply x_q | apply x_lr | apply x_qr); (focus (first | (apply wv_view; (iterate 9 (focus (first | exact rfl | (first | assumption | omega | (simp; omega) | (simp; done) | rfl))))))); exact rfl) | (apply v_x; (iterate 2 exact rfl); (focus (intro ok0 nw hle; (first | (apply wv_view; (iterate 9 (focus (first | exact rfl | (first | assumption | omega | (simp; omega) | (simp; done) | rfl)))))))); (iterate 2 exact rfl)) | refine zv ?_)
  refine v_o (g := SV.kill [33]) (sv := .own 33) (ho := (by intro rest; apply wo_appendV; (iterate 15 exact rfl); exact (fun y hy => (pk_el n.wire y hy).1); (simp; omega); (simp; omega))) ?_
  repeat (first | refine zcn ?_ | refine zv ?_)
  refine u_m [(1, [44]), (9, [44]), (11, [44]), (14, [10000])] (.tk [44] [0, 2, 3, 4, 5, 6, 7, 8, 10] (.tk [] [1, 9, 11, 12, 13, 14] .done)) ?_
  repeat (first | refine v_w (t := 44) ?_ | refine zc ?_ | refine u_w (t := 44) ?_ | ((first | apply x_l | apply x_q | apply x_lr | apply x_qr); (focus (first | (apply wv_first; (iterate 8 (focus (first | exact rfl | (first | assumption | omega | (simp; omega) | (simp; done) | rfl))))))); exact rfl) | (apply v_x; (iterate 2 exact rfl); (focus (intro ok0 nw hle; (first | (apply wv_first; (iterate 8 (focus (first | exact rfl | (first | assumption | omega | (simp; omega) | (simp; done) | rfl)))))))); (iterate 2 exact rfl)) | refine zv ?_)
  refine v_o (g := SV.kill [44]) (sv := .own 44) (ho := (by intro rest; apply wo_appendV; (iterate 15 exact rfl); exact (fun y hy => (pk_el n.wire y hy).1); (simp; omega); (simp; omega))) ?_
  refine v_o (g := SV.kill [44]) (sv := .own 44) (ho := (by intro rest; apply wo_append; (iterate 14 exact rfl); exact hels; (simp; omega))) ?_
  repeat (first | refine zc ?_ | refine zv ?_)
  (refine zb ?_; refine u_rH [(10000, 10000), (44, 20000)] ?_ ?_)
  . rfl
  . exact congrArg (fun l => some [(10000, Chunk.box [.d (.int .i64 n.st), .d (.int .i64 n.life), .d (.int .i64 n.tk), .d (.int .i64 n.d.life), .d (ints n.d.ord), .d (.int .i64 n.d.sure), .d (ints n.d.bel), .d (.int .i64 n.sv.life), .d (ints n.sv.ord), .d (.int .i64 n.sv.sure), .d (ints n.sv.bel), .own 20000]), (20000, Chunk.arr 93 4 l)]) hfin
theorem spec_l08Wire4 {s a : Int} {nx : List (List Int)} {lp : List Int} {k : Nat} {n : Ln} (v : LV s nx lp) (h : LnOk s nx k n) (hk : k <= 1000) (ha : 0 <= a /\ a <= 999) (hlt : a < n.wire.length) :
    HC Tryz.prog 141 [.d (.ptr (ltD s nx lp)), .ref 10000 0, .d (deedD (4, a))] [(10000, lnB (.own 20000) n), (20000, wrC n.wire)] (.d (.int .i64 0)) [(10000, lnB (.own 20000) (inF s nx lp n (n.wire.getD a.toNat pk0))), (20000, wrC (n.wire.eraseIdx a.toNat))] := by
  have hwl : (n.wire.map pkD).length = n.wire.length := by simp
  have hw10 := h.wl
  have he : wrC (n.wire.eraseIdx a.toNat) = .arr 93 4 ((n.wire.map pkD).take a.toNat ++ (n.wire.map pkD).drop (a.toNat + 1)) := by rw [<- pk_erase]; rfl
  rw [he]
  have hp1 := partOf_len (i := 2 * (a + 1).toNat) (ys := n.wire.map pkD)
  have hp2 := partOf_len (i := 2 * a.toNat + 1) (ys := n.wire.map pkD)
  have hels : elsOk 4 ([] ++ partOf (2 * (a + 1).toNat) (n.wire.map pkD)) = true := elsOk_of fun y hy => pk_el n.wire y (partOf_mem hy)
  have hfin : ([] ++ partOf (2 * a.toNat + 1) (n.wire.map pkD)) ++ ([] ++ partOf (2 * (a + 1).toNat) (n.wire.map pkD)) = (n.wire.map pkD).take a.toNat ++ (n.wire.map pkD).drop (a.toNat + 1) := by
    rw [part_from, part_to, show (a + 1).toNat = a.toNat + 1 by omega]
    rfl
  have hpk : PkOk s nx k (n.wire.getD a.toNat pk0) := by
    have : a.toNat < n.wire.length := by omega
    rw [List.getD_eq_getElem?_getD, List.getElem?_eq_getElem this]
    exact h.wire _ (List.getElem_mem this)
  have c1 := spec_l08In v h hpk hk
  have hx := pk_at (l := n.wire) (a := a) (by omega)
  generalize n.wire.getD a.toNat pk0 = p at *
  generalize inF s nx lp n p = n' at *
  unfold lnB wrC ltD deedD at *
  refine hc_intro tabIs _ Tryz.func141 rfl rfl Tryz.ntmps141 rfl rfl rfl ?_ fun w0 ok0 XM XA anc he0 hX0 => ?_
  . exact likeIn_cons rfl rfl fun p hp ha => by simp at hp; subst hp; cases ha
  repeat (first | refine zcn ?_ | refine zv ?_)
  refine u_d ?_
  repeat (first | refine zcn ?_ | refine zv ?_)
  refine awp_draw_tail 10 ?_ ?_ ?_ ?_
  . exact mixedIs
  . (as_aux_lemma => kernel_rfl)
  . exact rfl
  repeat (first | refine zcn ?_ | ((first | apply x_l | apply x_q | apply x_lr | apply x_qr); (focus (first | (apply wp_loadAgg; (iterate 6 (focus (first | exact rfl | (first | assumption | omega | (simp; omega) | (simp; done) | rfl))))))); exact rfl) | (apply v_x; (iterate 2 exact rfl); (focus (intro ok0 nw hle; (first | (apply wp_loadAgg; (iterate 6 (focus (first | exact rfl | (first | assumption | omega | (simp; omega) | (simp; done) | rfl)))))))); (iterate 2 exact rfl)) | refine zv ?_)
  refine hcl [(10000, 10000), (20000, 20000)] [(10000, 10000), (20000, 20000)] c1 ?_
  repeat (first | refine zcn ?_ | refine zv ?_)
  refine u_m [(0, [33]), (9, [33])] (.tk [33] [1, 2, 3, 4, 5, 6, 7, 8] (.tk [] [0, 9, 10] .done)) ?_
  repeat (first | refine v_w (t := 33) ?_ | refine zc ?_ | refine u_w (t := 33) ?_ | ((first | apply x_l | apply x_q | apply x_lr | apply x_qr); (focus (first | (apply wv_view; (iterate 9 (focus (first | exact rfl | (first | assumption | omega | (simp; omega) | (simp; done) | rfl))))))); exact rfl) | (apply v_x; (iterate 2 exact rfl); (focus (intro ok0 nw hle; (first | (apply wv_view; (iterate 9 (focus (first | exact rfl | (first | assumption | omega | (simp; omega) | (simp; done) | rfl)))))))); (iterate 2 exact rfl)) | refine zv ?_)
  refine v_o (g := SV.kill [33]) (sv := .own 33) (ho := (by intro rest; apply wo_appendV; (iterate 15 exact rfl); exact (fun y hy => (pk_el n.wire y hy).1); (simp; omega); (simp; omega))) ?_
  repeat (first | refine zcn ?_ | refine zv ?_)
  refine u_m [(1, [44]), (9, [44]), (11, [44]), (14, [10000])] (.tk [44] [0, 2, 3, 4, 5, 6, 7, 8, 10] (.tk [] [1, 9, 11, 12, 13, 14] .done)) ?_
  repeat (first | refine v_w (t := 44) ?_ | refine zc ?_ | refine u_w (t := 44) ?_ | ((first | apply x_l | apply x_q | apply x_lr | apply x_qr); (focus (first | (apply wv_first; (iterate 8 (focus (first | exact rfl | (first | assumption | omega | (simp; omega) | (simp; done) | rfl))))))); exact rfl) | (apply v_x; (iterate 2 exact rfl); (focus (intro ok0 nw hle; (first | (apply wv_first; (iterate 8 (focus (first | exact rfl | (first | assumption | omega | (simp; omega) | (simp; done) | rfl)))))))); (iterate 2 exact rfl)) | refine zv ?_)
  refine v_o (g := SV.kill [44]) (sv := .own 44) (ho := (by intro rest; apply wo_appendV; (iterate 15 exact rfl); exact (fun y hy => (pk_el n.wire y hy).1); (simp; omega); (simp; omega))) ?_
  refine v_o (g := SV.kill [44]) (sv := .own 44) (ho := (by intro rest; apply wo_append; (iterate 14 exact rfl); exact hels; (simp; omega))) ?_
  repeat (first | refine zc ?_ | refine zv ?_)
  (refine zb ?_; refine u_rH [(10000, 10000), (44, 20000)] ?_ ?_)
  . rfl
  . exact congrArg (fun l => some [(10000, Chunk.box [.d (.int .i64 n'.st), .d (.int .i64 n'.life), .d (.int .i64 n'.tk), .d (.int .i64 n'.d.life), .d (ints n'.d.ord), .d (.int .i64 n'.d.sure), .d (ints n'.d.bel), .d (.int .i64 n'.sv.life), .d (ints n'.sv.ord), .d (.int .i64 n'.sv.sure), .d (ints n'.sv.bel), .own 20000]), (20000, Chunk.arr 93 4 l)]) hfin
end Go.Proofs.YtffmlijngfhhaaaGreatDoor
namespace Go.Proofs.YtffmlijngfhhaaaGreatDoor
open Go
attribute [local irreducible] awp awpL awpQL awpQ awpM pWalk Qt AC thenQ blockQ loopQ OpTo
set_option linter.unusedVariables false
set_option linter.unusedSimpArgs false
set_option maxHeartbeats 2000000
attribute [local irreducible] HC
theorem spec_l08WireN {s c a : Int} {nx : List (List Int)} {lp : List Int} {n : Ln} (hge : (n.wire.length : Int) <= a) :
    HC Tryz.prog 141 [.d (.ptr (ltD s nx lp)), .ref 10000 0, .d (deedD (c, a))] [(10000, lnB (.own 20000) n), (20000, wrC n.wire)] (.d (.int .i64 2)) [(10000, lnB (.own 20000) n), (20000, wrC n.wire)] := by
  have hwl : (n.wire.map pkD).length = n.wire.length := by simp
  unfold lnB wrC ltD deedD at *
  refine hc_intro tabIs _ Tryz.func141 rfl rfl Tryz.ntmps141 rfl rfl rfl ?_ fun w0 ok0 XM XA anc he0 hX0 => ?_
  . exact likeIn_cons rfl rfl fun p hp ha => by simp at hp; subst hp; cases ha
  repeat (first | refine zc ?_ | refine zv ?_)
  (refine zb ?_; refine u_rH [(10000, 10000), (20000, 20000)] ?_ ?_)
  . rfl
  . rfl
theorem spec_l08Do {s c a : Int} {nx : List (List Int)} {lp : List Int} {k : Nat} {n : Ln} (hv : litOk s nx lp = true) (h : LnOk s nx k n) (hk : k <= 1000) (hd : ddOk (c, a)) :
    HC Tryz.prog 89 [.d (.ptr (ltD s nx lp)), .ref 10000 0, .d (deedD (c, a))] [(10000, lnB (.own 20000) n), (20000, wrC n.wire)] (.d (.int .i64 (doF s nx lp n c a).2)) [(10000, lnB (.own 20000) (doF s nx lp n c a).1), (20000, wrC (doF s nx lp n c a).1.wire)] := by
  have v := lv_of hv
  have hs1 := v.s1
  have hn1 := v.n1
  obtain ⟨d1, d2, d3, d4⟩ := hd
  dsimp only at d1 d2 d3 d4
  have hol := h.d.len
  have hsl := h.sv.len
  have hml : (List.map ints nx).length = nx.length := by simp
  have hodl : (n.d.ord.map (D.int .i64)).length = n.d.ord.length := by simp
  have hsvl : (n.sv.ord.map (D.int .i64)).length = n.sv.ord.length := by simp
  have hlf := h.life
  have hc : c = 1 \/ c = 2 \/ c = 3 \/ c = 4 \/ c = 5 \/ c = 6 \/ c = 7 \/ c = 8 \/ c = 9 := by omega
  rcases hc with rfl | rfl | rfl | rfl | rfl | rfl | rfl | rfl | rfl
  . unfold doF
    rw [if_pos rfl]
    by_cases h1 : (nx.length : Int) <= a
    . rw [if_pos h1]
      unfold lnB wrC ltD deedD
      refine hc_intro tabIs _ Tryz.func89 rfl rfl Tryz.ntmps89 rfl rfl rfl ?_ fun w0 ok0 XM XA anc he0 hX0 => ?_
      . exact likeIn_cons rfl rfl fun p hp ha => by simp at hp; subst hp; cases ha
      repeat (first | refine zc ?_ | refine zv ?_)
      (refine zb ?_; refine u_rH [(10000, 10000), (20000, 20000)] ?_ ?_)
      . rfl
      . rfl
    . rw [if_neg h1]
      by_cases h2 : n.d.ord.length = 60
      . rw [if_pos h2]
        unfold lnB wrC ltD deedD
        refine hc_intro tabIs _ Tryz.func89 rfl rfl Tryz.ntmps89 rfl rfl rfl ?_ fun w0 ok0 XM XA anc he0 hX0 => ?_
        . exact likeIn_cons rfl rfl fun p hp ha => by simp at hp; subst hp; cases ha
        repeat (first | refine zc ?_ | refine zv ?_)
        (refine zb ?_; refine u_rH [(10000, 10000), (20000, 20000)] ?_ ?_)
        . rfl
        . rfl
      . rw [if_neg h2]
        have e1 := spec_l00OwnH (ns := n.d.ord) (by omega)
        have ei : ints (n.d.ord ++ [a]) = .lst (n.d.ord.map (.int .i64) ++ [.int .i64 a]) := by simp [ints]
        unfold lnB wrC ltD deedD
        dsimp only
        rw [ei]
        refine hc_intro tabIs _ Tryz.func89 rfl rfl Tryz.ntmps89 rfl rfl rfl ?_ fun w0 ok0 XM XA anc he0 hX0 => ?_
        . exact likeIn_cons rfl rfl fun p hp ha => by simp at hp; subst hp; cases ha
        repeat (first | refine zcn ?_ | refine zv ?_)
        refine u_d ?_
        repeat (first | refine zcn ?_ | refine zv ?_)
        refine u_m [(6, [500]), (10, [500]), (14, [10000])] (.tk [500] [0, 1, 2, 3, 4, 5, 7, 8, 9] (.tk [] [6, 10, 11, 12, 13, 14] .done)) ?_
        repeat (first | refine zc ?_ | refine zv ?_)
        refine hclM [] [(30000, 500)] e1 ?_
        repeat (first | refine zcr ?_ | refine zv ?_)
        refine awp_freeze 500 rfl rfl ?_
        repeat (first | refine zc ?_ | refine zv ?_)
        (refine zb ?_; refine u_rH [(10000, 10000), (20000, 20000)] ?_ ?_)
        . rfl
        . rfl
  . unfold doF
    rw [if_neg (by decide), if_pos rfl]
    by_cases h1 : (n.sv.ord.length : Int) <= a
    . rw [if_pos h1]
      unfold lnB wrC ltD deedD
      refine hc_intro tabIs _ Tryz.func89 rfl rfl Tryz.ntmps89 rfl rfl rfl ?_ fun w0 ok0 XM XA anc he0 hX0 => ?_
      . exact likeIn_cons rfl rfl fun p hp ha => by simp at hp; subst hp; cases ha
      repeat (first | refine zc ?_ | refine zv ?_)
      (refine zb ?_; refine u_rH [(10000, 10000), (20000, 20000)] ?_ ?_)
      . rfl
      . rfl
    . rw [if_neg h1]
      have hx : (n.sv.ord.map (D.int .i64))[a.toNat]? = some (.int .i64 (n.sv.ord.getD a.toNat 0)) := el_int2 (ns := n.sv.ord) (q := a) (by omega)
      have c1 := spec_l08Send (n := n) (p := ⟨false, n.sv.life, a, n.sv.ord.getD a.toNat 0⟩) h.wl
      generalize n.sv.ord.getD a.toNat 0 = x at *
      generalize sendF n ⟨false, n.sv.life, a, x⟩ = r at *
      unfold lnB wrC ltD deedD pkD at *
      refine hc_intro tabIs _ Tryz.func89 rfl rfl Tryz.ntmps89 rfl rfl rfl ?_ fun w0 ok0 XM XA anc he0 hX0 => ?_
      . exact likeIn_cons rfl rfl fun p hp ha => by simp at hp; subst hp; cases ha
      repeat (first | refine zcn ?_ | refine zv ?_)
      refine u_d ?_
      repeat (first | refine zcn ?_ | refine zv ?_)
      refine awp_draw_tail 18 ?_ ?_ ?_ ?_
      . exact mixedIs
      . (as_aux_lemma => kernel_rfl)
      . exact rfl
      repeat (first | refine zc ?_ | refine zv ?_)
      refine hcl [(10000, 10000), (20000, 20000)] [(10000, 10000), (20000, 20000)] c1 ?_
      repeat (first | refine zc ?_ | refine zv ?_)
      (refine zb ?_; refine u_rH [(10000, 10000), (20000, 20000)] ?_ ?_)
      . rfl
      . rfl
  . unfold doF
    rw [if_neg (by decide), if_neg (by decide), if_pos rfl]
    have hst := h.st
    have hlp := v.lp
    have hx : (lp.map (D.int .i64))[n.st.toNat]? = some (.int .i64 (lamp lp n.st)) := el_int2 (ns := lp) (q := n.st) (by omega)
    have hlpl : (lp.map (D.int .i64)).length = lp.length := by simp
    have c1 := spec_l08Send (n := n) (p := ⟨true, n.life, n.tk, lamp lp n.st⟩) h.wl
    generalize lamp lp n.st = x at *
    generalize sendF n ⟨true, n.life, n.tk, x⟩ = r at *
    unfold lnB wrC ltD deedD pkD at *
    refine hc_intro tabIs _ Tryz.func89 rfl rfl Tryz.ntmps89 rfl rfl rfl ?_ fun w0 ok0 XM XA anc he0 hX0 => ?_
    . exact likeIn_cons rfl rfl fun p hp ha => by simp at hp; subst hp; cases ha
    repeat (first | refine zcn ?_ | refine zv ?_)
    refine awp_draw_tail 20 ?_ ?_ ?_ ?_
    . exact mixedIs
    . (as_aux_lemma => kernel_rfl)
    . exact rfl
    repeat (first | refine zc ?_ | refine zv ?_)
    refine hcl [(10000, 10000), (20000, 20000)] [(10000, 10000), (20000, 20000)] c1 ?_
    repeat (first | refine zc ?_ | refine zv ?_)
    (refine zb ?_; refine u_rH [(10000, 10000), (20000, 20000)] ?_ ?_)
    . rfl
    . rfl
  . by_cases h1 : (n.wire.length : Int) <= a
    . have e : doF s nx lp n 4 a = (n, 2) := by unfold doF; rw [if_neg (by decide), if_neg (by decide), if_neg (by decide), if_neg (by decide), if_neg (by decide), if_neg (by decide), if_pos h1]
      rw [e]
      have c1 := spec_l08WireN (s := s) (c := 4) (nx := nx) (lp := lp) h1
      unfold lnB wrC ltD deedD at *
      refine hc_intro tabIs _ Tryz.func89 rfl rfl Tryz.ntmps89 rfl rfl rfl ?_ fun w0 ok0 XM XA anc he0 hX0 => ?_
      . exact likeIn_cons rfl rfl fun p hp ha => by simp at hp; subst hp; cases ha
      repeat (first | refine zc ?_ | refine zv ?_)
      refine hcl [(10000, 10000), (20000, 20000)] [(10000, 10000), (20000, 20000)] c1 ?_
      repeat (first | refine zc ?_ | refine zv ?_)
      (refine zb ?_; refine u_rH [(10000, 10000), (20000, 20000)] ?_ ?_)
      . rfl
      . rfl
    . have e : doF s nx lp n 4 a = ({ inF s nx lp n (n.wire.getD a.toNat pk0) with wire := n.wire.eraseIdx a.toNat }, 0) := by unfold doF; rw [if_neg (by decide), if_neg (by decide), if_neg (by decide), if_neg (by decide), if_neg (by decide), if_neg (by decide), if_neg h1, if_neg (by decide), if_neg (by decide)]
      have c1 := spec_l08Wire4 v h hk ⟨d3, d4⟩ (by omega)
      rw [e]
      generalize n.wire.getD a.toNat pk0 = p at *
      generalize inF s nx lp n p = n' at *
      unfold lnB wrC ltD deedD at *
      refine hc_intro tabIs _ Tryz.func89 rfl rfl Tryz.ntmps89 rfl rfl rfl ?_ fun w0 ok0 XM XA anc he0 hX0 => ?_
      . exact likeIn_cons rfl rfl fun p hp ha => by simp at hp; subst hp; cases ha
      repeat (first | refine zc ?_ | refine zv ?_)
      refine hcl [(10000, 10000), (20000, 20000)] [(10000, 10000), (20000, 20000)] c1 ?_
      repeat (first | refine zc ?_ | refine zv ?_)
      (refine zb ?_; refine u_rH [(10000, 10000), (20000, 20000)] ?_ ?_)
      . rfl
      . rfl
  . by_cases h1 : (n.wire.length : Int) <= a
    . have e : doF s nx lp n 5 a = (n, 2) := by unfold doF; rw [if_neg (by decide), if_neg (by decide), if_neg (by decide), if_neg (by decide), if_neg (by decide), if_neg (by decide), if_pos h1]
      rw [e]
      have c1 := spec_l08WireN (s := s) (c := 5) (nx := nx) (lp := lp) h1
      unfold lnB wrC ltD deedD at *
      refine hc_intro tabIs _ Tryz.func89 rfl rfl Tryz.ntmps89 rfl rfl rfl ?_ fun w0 ok0 XM XA anc he0 hX0 => ?_
      . exact likeIn_cons rfl rfl fun p hp ha => by simp at hp; subst hp; cases ha
      repeat (first | refine zc ?_ | refine zv ?_)
      refine hcl [(10000, 10000), (20000, 20000)] [(10000, 10000), (20000, 20000)] c1 ?_
      repeat (first | refine zc ?_ | refine zv ?_)
      (refine zb ?_; refine u_rH [(10000, 10000), (20000, 20000)] ?_ ?_)
      . rfl
      . rfl
    . have e : doF s nx lp n 5 a = ({ inF s nx lp n (n.wire.getD a.toNat pk0) with wire := n.wire }, 0) := by unfold doF; rw [if_neg (by decide), if_neg (by decide), if_neg (by decide), if_neg (by decide), if_neg (by decide), if_neg (by decide), if_neg h1, if_neg (by decide), if_pos rfl]
      have c1 := spec_l08Wire5 v h hk ⟨d3, d4⟩ (by omega)
      rw [e]
      generalize n.wire.getD a.toNat pk0 = p at *
      generalize inF s nx lp n p = n' at *
      unfold lnB wrC ltD deedD at *
      refine hc_intro tabIs _ Tryz.func89 rfl rfl Tryz.ntmps89 rfl rfl rfl ?_ fun w0 ok0 XM XA anc he0 hX0 => ?_
      . exact likeIn_cons rfl rfl fun p hp ha => by simp at hp; subst hp; cases ha
      repeat (first | refine zc ?_ | refine zv ?_)
      refine hcl [(10000, 10000), (20000, 20000)] [(10000, 10000), (20000, 20000)] c1 ?_
      repeat (first | refine zc ?_ | refine zv ?_)
      (refine zb ?_; refine u_rH [(10000, 10000), (20000, 20000)] ?_ ?_)
      . rfl
      . rfl
  . by_cases h1 : (n.wire.length : Int) <= a
    . have e : doF s nx lp n 6 a = (n, 2) := by unfold doF; rw [if_neg (by decide), if_neg (by decide), if_neg (by decide), if_neg (by decide), if_neg (by decide), if_neg (by decide), if_pos h1]
      rw [e]
      have c1 := spec_l08WireN (s := s) (c := 6) (nx := nx) (lp := lp) h1
      unfold lnB wrC ltD deedD at *
      refine hc_intro tabIs _ Tryz.func89 rfl rfl Tryz.ntmps89 rfl rfl rfl ?_ fun w0 ok0 XM XA anc he0 hX0 => ?_
      . exact likeIn_cons rfl rfl fun p hp ha => by simp at hp; subst hp; cases ha
      repeat (first | refine zc ?_ | refine zv ?_)
      refine hcl [(10000, 10000), (20000, 20000)] [(10000, 10000), (20000, 20000)] c1 ?_
      repeat (first | refine zc ?_ | refine zv ?_)
      (refine zb ?_; refine u_rH [(10000, 10000), (20000, 20000)] ?_ ?_)
      . rfl
      . rfl
    . have e : doF s nx lp n 6 a = ({ n with wire := n.wire.eraseIdx a.toNat }, 0) := by unfold doF; rw [if_neg (by decide), if_neg (by decide), if_neg (by decide), if_neg (by decide), if_neg (by decide), if_neg (by decide), if_neg h1, if_pos rfl, if_neg (by decide)]
      have c1 := spec_l08Wire6 v h hk ⟨d3, d4⟩ (by omega)
      rw [e]
      unfold lnB wrC ltD deedD at *
      refine hc_intro tabIs _ Tryz.func89 rfl rfl Tryz.ntmps89 rfl rfl rfl ?_ fun w0 ok0 XM XA anc he0 hX0 => ?_
      . exact likeIn_cons rfl rfl fun p hp ha => by simp at hp; subst hp; cases ha
      repeat (first | refine zc ?_ | refine zv ?_)
      refine hcl [(10000, 10000), (20000, 20000)] [(10000, 10000), (20000, 20000)] c1 ?_
      repeat (first | refine zc ?_ | refine zv ?_)
      (refine zb ?_; refine u_rH [(10000, 10000), (20000, 20000)] ?_ ?_)
      . rfl
      . rfl
  . unfold doF
    rw [if_neg (by decide), if_neg (by decide), if_neg (by decide), if_pos rfl]
    by_cases h1 : s <= a
    . rw [if_pos h1]
      unfold lnB wrC ltD deedD
      refine hc_intro tabIs _ Tryz.func89 rfl rfl Tryz.ntmps89 rfl rfl rfl ?_ fun w0 ok0 XM XA anc he0 hX0 => ?_
      . exact likeIn_cons rfl rfl fun p hp ha => by simp at hp; subst hp; cases ha
      repeat (first | refine zc ?_ | refine zv ?_)
      (refine zb ?_; refine u_rH [(10000, 10000), (20000, 20000)] ?_ ?_)
      . rfl
      . rfl
    . rw [if_neg h1]
      by_cases h2 : n.life = 6
      . rw [if_pos h2]
        unfold lnB wrC ltD deedD
        refine hc_intro tabIs _ Tryz.func89 rfl rfl Tryz.ntmps89 rfl rfl rfl ?_ fun w0 ok0 XM XA anc he0 hX0 => ?_
        . exact likeIn_cons rfl rfl fun p hp ha => by simp at hp; subst hp; cases ha
        repeat (first | refine zc ?_ | refine zv ?_)
        (refine zb ?_; refine u_rH [(10000, 10000), (20000, 20000)] ?_ ?_)
        . rfl
        . rfl
      . rw [if_neg h2]
        unfold lnB wrC ltD deedD
        refine hc_intro tabIs _ Tryz.func89 rfl rfl Tryz.ntmps89 rfl rfl rfl ?_ fun w0 ok0 XM XA anc he0 hX0 => ?_
        . exact likeIn_cons rfl rfl fun p hp ha => by simp at hp; subst hp; cases ha
        repeat (first | refine zc ?_ | refine zv ?_)
        (refine zb ?_; refine u_rH [(10000, 10000), (20000, 20000)] ?_ ?_)
        . rfl
        . rfl
  . unfold doF
    rw [if_neg (by decide), if_neg (by decide), if_neg (by decide), if_neg (by decide), if_pos rfl]
    have c1 := spec_l08OwnD (n := n) (by omega) (h.d.bel_len (by omega))
    unfold lnB wrC ltD deedD dskD dskL at *
    refine hc_intro tabIs _ Tryz.func89 rfl rfl Tryz.ntmps89 rfl rfl rfl ?_ fun w0 ok0 XM XA anc he0 hX0 => ?_
    . exact likeIn_cons rfl rfl fun p hp ha => by simp at hp; subst hp; cases ha
    repeat (first | refine zc ?_ | refine zv ?_)
    refine hcl [(10000, 10000), (20000, 20000)] [(10000, 10000), (20000, 20000)] c1 ?_
    repeat (first | refine zc ?_ | refine zv ?_)
    (refine zb ?_; refine u_rH [(10000, 10000), (20000, 20000)] ?_ ?_)
    . rfl
    . rfl
  . unfold doF
    rw [if_neg (by decide), if_neg (by decide), if_neg (by decide), if_neg (by decide), if_neg (by decide), if_pos rfl]
    have c1 := spec_l08OwnS (n := n) (by omega) (h.sv.bel_len (by omega))
    unfold lnB wrC ltD deedD dskD dskL at *
    refine hc_intro tabIs _ Tryz.func89 rfl rfl Tryz.ntmps89 rfl rfl rfl ?_ fun w0 ok0 XM XA anc he0 hX0 => ?_
    . exact likeIn_cons rfl rfl fun p hp ha => by simp at hp; subst hp; cases ha
    repeat (first | refine zc ?_ | refine zv ?_)
    refine hcl [(10000, 10000), (20000, 20000)] [(10000, 10000), (20000, 20000)] c1 ?_
    repeat (first | refine zc ?_ | refine zv ?_)
    (refine zb ?_; refine u_rH [(10000, 10000), (20000, 20000)] ?_ ?_)
    . rfl
    . rfl
end Go.Proofs.YtffmlijngfhhaaaGreatDoor
namespace Go.Proofs.YtffmlijngfhhaaaGreatDoor
open Go
attribute [local irreducible] awp awpL awpQL awpQ awpM pWalk Qt AC thenQ blockQ loopQ OpTo
set_option linter.unusedVariables false
set_option linter.unusedSimpArgs false
set_option maxHeartbeats 2000000
attribute [local irreducible] HC
def lnL (n : Ln) : List D := [.int .i64 n.st, .int .i64 n.life, .int .i64 n.tk, .int .i64 n.d.life, ints n.d.ord, .int .i64 n.d.sure, ints n.d.bel, .int .i64 n.sv.life, ints n.sv.ord, .int .i64 n.sv.sure, ints n.sv.bel, .lst (n.wire.map pkD)]
def askC (s st : Int) (nx : List (List Int)) (lp : List Int) (ds : List (Int × Int)) : Int :=
  if litOk s nx lp then if ds.all (fun p => vdeed p.1 p.2) then if 0 <= st /\ st < s /\ ds.length <= 400 then 0 else 2 else 1 else 1
theorem el_deed {ds : List (Int × Int)} {k : Nat} (h : k < ds.length) : (ds.map deedD)[(k : Int).toNat]? = some (.agg [.int .i64 ds[k].1, .int .i64 ds[k].2]) := by simp [h, deedD]
theorem ddOk_of {p : Int × Int} (h : vdeed p.1 p.2 = true) : ddOk p := by
  simp only [vdeed, inB, Bool.and_eq_true, decide_eq_true_eq] at h
  exact ⟨h.1.1.1, h.1.1.2, h.1.2.1, h.1.2.2⟩
theorem ask_ok {s st : Int} {nx : List (List Int)} {lp : List Int} {ds : List (Int × Int)} (h : askC s st nx lp ds = 0) : litOk s nx lp = true /\ (0 <= st /\ st < s) /\ (∀ p ∈ ds, ddOk p) /\ ds.length <= 400 := by
  unfold askC at h
  split at h
  . rename_i h1
    split at h
    . rename_i h2
      split at h
      . rename_i h3
        exact ⟨h1, ⟨h3.1, h3.2.1⟩, fun p hp => ddOk_of (by have := List.all_eq_true.1 h2 p hp; exact this), h3.2.2⟩
      . cases h
    . cases h
  . cases h
end Go.Proofs.YtffmlijngfhhaaaGreatDoor
