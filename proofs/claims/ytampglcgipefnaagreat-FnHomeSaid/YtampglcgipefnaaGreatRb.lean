/- A line inside of a plan (the reference's l08Plan): deeds are done. Printed by genpl.py out of XOb. No condition. -/
import Derived.Test.YtampglcgipefnaaGreatOb
namespace Go.Proofs.YtampglcgipefnaaGreat
open Go
attribute [local irreducible] awp awpL awpQL awpQ awpM pWalk Qt AC thenQ blockQ loopQ OpTo
set_option linter.unusedVariables false
set_option linter.unusedSimpArgs false
set_option maxHeartbeats 2000000
attribute [local irreducible] HC

def dsC (l : List (Int × Int)) : Chunk := .arr 74 2 (l.map deedD)
/-- A plan: the lit automaton, the line's cells, the deeds, is it bad? -/
def plB (w ls : SV) (l : D) (b : Bool) (n : Ln) : Chunk := .box [.d l, .d (.int .i64 n.st), .d (.int .i64 n.life), .d (.int .i64 n.tk), .d (.int .i64 n.d.life), .d (ints n.d.ord), .d (.int .i64 n.d.sure), .d (ints n.d.bel), .d (.int .i64 n.sv.life), .d (ints n.sv.ord), .d (.int .i64 n.sv.sure), .d (ints n.sv.bel), w, ls, .d (.bool b)]

theorem plan_l08OwnD {pL : D} {pB : Bool} {pS : List (Int × Int)} {n : Ln} (h1 : n.d.ord.length ≤ 60) (h2 : n.d.bel.length ≤ 10) : HC Tryz.prog 116 [.ref 10000 4] [(10000, plB (.own 20000) (.own 20001) pL pB n), (20000, wrC n.wire), (20001, dsC pS)] (.d (dskD n.d)) [(10000, plB (.own 20000) (.own 20001) pL pB n), (20000, wrC n.wire), (20001, dsC pS)] := by
  have e1 := spec_l00Own (ns := n.d.ord) (by omega)
  have e2 := spec_l00Own (ns := n.d.bel) (by omega)
  unfold dskD dskL plB dsC wrC
  refine hc_intro tabIs _ Tryz.func116 rfl rfl Tryz.ntmps116 rfl rfl rfl ?_ fun w0 ok0 XM XA anc => ?_
  · exact likeIn_cons rfl rfl fun p hp ha => by simp at hp; rcases hp with rfl | rfl <;> cases ha
  repeat (first | refine zc ?_ | ((first | apply c_l | apply c_q | apply c_lr | apply c_qr); (iterate 2 exact rfl); (focus (first | exact e1 | exact e2)); (iterate 2 exact rfl)) | (apply v_c; (iterate 4 exact rfl); (focus (first | exact e1 | exact e2)); (iterate 2 exact rfl)) | refine zv ?_)
  (refine awp_ret ?_; (repeat (first | refine then_r ?_ | refine block_r ?_ | refine loop_r ?_)); refine u_rH [(10000, 10000), (20000, 20000), (20001, 20001)] ?_ ?_)
  · rfl
  · rfl

theorem plan_l08Send {pL : D} {pB : Bool} {pS : List (Int × Int)} {n : Ln} {p : Pk} (hw : n.wire.length ≤ 10) : HC Tryz.prog 117 [.ref 10000 1, .d (pkD p)] [(10000, plB (.own 20000) (.own 20001) pL pB n), (20000, wrC n.wire), (20001, dsC pS)] (.d (.int .i64 (sendF n p).2)) [(10000, plB (.own 20000) (.own 20001) pL pB (sendF n p).1), (20000, wrC (sendF n p).1.wire), (20001, dsC pS)] := by
  have hl : (n.wire.map pkD).length = n.wire.length := by simp
  unfold sendF
  by_cases hc : n.wire.length = 10
  · rw [if_pos hc]
    unfold plB dsC wrC pkD
    unfold pkD at hl
    refine hc_intro tabIs _ Tryz.func117 rfl rfl Tryz.ntmps117 rfl rfl rfl ?_ fun w0 ok0 XM XA anc => ?_
    · exact likeIn_cons rfl rfl fun p hp ha => by simp at hp; rcases hp with rfl | rfl <;> cases ha
    repeat (first | refine zc ?_ | refine zv ?_)
    (refine awp_ret ?_; (repeat (first | refine then_r ?_ | refine block_r ?_ | refine loop_r ?_)); refine u_rH [(10000, 10000), (20000, 20000), (20001, 20001)] ?_ ?_)
    · rfl
    · rfl
  · rw [if_neg hc]
    have e : wrC (n.wire ++ [p]) = .arr 90 4 (n.wire.map pkD ++ [pkD p]) := by simp [wrC]
    show HC _ _ _ _ _ [(10000, plB (.own 20000) (.own 20001) pL pB n), (20000, wrC (n.wire ++ [p])), (20001, dsC pS)]
    rw [e]
    unfold plB dsC wrC pkD
    unfold pkD at hl
    refine hc_intro tabIs _ Tryz.func117 rfl rfl Tryz.ntmps117 rfl rfl rfl ?_ fun w0 ok0 XM XA anc => ?_
    · exact likeIn_cons rfl rfl fun p hp ha => by simp at hp; rcases hp with rfl | rfl <;> cases ha
    repeat (first | refine zcn ?_ | refine zv ?_)
    refine u_m [(7, [20000]), (10, [10000])] (.tk [20000] [0] (.tk [] [1, 2, 3, 4, 5, 6, 7, 8, 9, 10] .done)) ?_
    repeat (first | refine zc ?_ | refine zv ?_)
    (refine awp_ret ?_; (repeat (first | refine then_r ?_ | refine block_r ?_ | refine loop_r ?_)); refine u_rH [(10000, 10000), (20000, 20000), (20001, 20001)] ?_ ?_)
    · rfl
    · rfl

theorem plan_l08Read {pL : D} {pB : Bool} {pS : List (Int × Int)} {s : Int} {nx : List (List Int)} {lp : List Int} {k : Nat} {n : Ln} {p : Pk} (v : LV s nx lp) (h : DskOk s nx n.d) (hp : PkOk s nx k p) :
    HC Tryz.prog 145 [.d (.ptr (ltD s nx lp)), .ref 10000 4, .d (pkD p)] [(10000, plB (.own 20000) (.own 20001) pL pB n), (20000, wrC n.wire), (20001, dsC pS)] (.d (.tup [])) [(10000, plB (.own 20000) (.own 20001) pL pB { n with d := readF s nx lp n.d p }), (20000, wrC n.wire), (20001, dsC pS)] := by
  have hs := v.s1
  have e1 := spec_l01All (s := s) (by omega)
  have ho := openF_ok (by omega) h hp
  have hbl := ho.bel_len (by omega)
  obtain ⟨st, lf, tk, ⟨dl, od, su, be⟩, sv, wire⟩ := n
  have b2 : od.length ≤ 60 := h.len
  have b3 : 0 ≤ su ∧ su ≤ od.length := h.sure
  have hpn := hp.num
  have hel := elsOk_ints od
  have hol : (od.map (D.int .i64)).length = od.length := by simp
  by_cases h1 : dl < p.life
  · have hof : openF s ⟨dl, od, su, be⟩ p = ⟨p.life, [], 0, mk1 0 s.toNat⟩ := if_pos h1
    unfold readF
    simp only [hof] at ho hbl ⊢
    by_cases h2 : p.num = 0
    · rw [if_pos (by simp; omega)]
      have hsg : seg [] 0 p.num = [] := by simp [seg]
      rw [hsg]
      have e2 := spec_l01Image (l := mk1 0 s.toNat) (w := []) v ho.bel (by omega) (by simp) (by simp)
      have e3 := spec_l08With (l := imgL nx (mk1 0 s.toNat) []) (x := p.val) v (fun q hq => by
        obtain ⟨q0, hq0, e⟩ := ((imgL_spec nx (mk1 0 s.toNat) []).2 q).1 hq
        have e : q = q0 := e
        rw [e]
        exact ho.bel q0 hq0) (by have := imgL_length nx (mk1 0 s.toNat) []; omega)
      have e4 := spec_l00In (n := p.num) (lo := 0) (hi := (([] : List D).length : Nat))
      rw [show inB p.num 0 (([] : List D).length : Nat) = true by rw [h2]; rfl] at e4
      have hpd : partD [] (0 : Int).toNat p.num.toNat = [] := by simp [partD]
      have hel0 : elsOk 1 ([] : List D) = true := rfl
      unfold ints at e2
      rw [show List.map (D.int .i64) [] = partD [] (0 : Int).toNat p.num.toNat from hpd.symm] at e2
      unfold plB dsC wrC pkD ltD
      refine hc_intro tabIs _ Tryz.func145 rfl rfl Tryz.ntmps145 rfl rfl rfl ?_ fun w0 ok0 XM XA anc => ?_
      · exact likeIn_cons rfl rfl fun p hp ha => by simp at hp; rcases hp with rfl | rfl <;> cases ha
      repeat (first | refine zc ?_ | ((first | apply x_l | apply x_q | apply x_lr | apply x_qr); (focus (first | (apply qa_slice_lh; (iterate 10 (focus (first | exact rfl | (first | assumption | omega | (simp; omega) | (simp; done) | rfl))))))); exact rfl) | ((first | apply c_l | apply c_q | apply c_lr | apply c_qr); (iterate 2 exact rfl); (focus (first | exact e1 | exact e4 | exact e2 | exact e3)); (iterate 2 exact rfl)) | (apply v_x; (iterate 2 exact rfl); (focus (intro ok0 nw hle; (first | (apply qa_slice_lh; (iterate 10 (focus (first | exact rfl | (first | assumption | omega | (simp; omega) | (simp; done) | rfl)))))))); (iterate 2 exact rfl)) | (apply v_c; (iterate 4 exact rfl); (focus (first | exact e1 | exact e4 | exact e2 | exact e3)); (iterate 2 exact rfl)) | refine zv ?_ | refine zg ?_)
      (refine u_eH [(10000, 10000), (20000, 20000), (20001, 20001)] ?_ ?_)
      · rfl
      · rfl
    · have e4 := spec_l00In (n := p.num) (lo := 0) (hi := (([] : List D).length : Nat))
      rw [show inB p.num 0 (([] : List D).length : Nat) = false by simp [inB]; omega] at e4
      rw [if_neg (by simp; omega)]
      unfold plB dsC wrC pkD ltD
      refine hc_intro tabIs _ Tryz.func145 rfl rfl Tryz.ntmps145 rfl rfl rfl ?_ fun w0 ok0 XM XA anc => ?_
      · exact likeIn_cons rfl rfl fun p hp ha => by simp at hp; rcases hp with rfl | rfl <;> cases ha
      repeat (first | refine zc ?_ | ((first | apply c_l | apply c_q | apply c_lr | apply c_qr); (iterate 2 exact rfl); (focus (first | exact e1 | exact e4)); (iterate 2 exact rfl)) | (apply v_c; (iterate 4 exact rfl); (focus (first | exact e1 | exact e4)); (iterate 2 exact rfl)) | refine zv ?_ | refine zg ?_)
      (refine awp_ret ?_; (repeat (first | refine then_r ?_ | refine block_r ?_ | refine loop_r ?_)); refine u_rH [(10000, 10000), (20000, 20000), (20001, 20001)] ?_ ?_)
      · rfl
      · rfl
  · have hof : openF s ⟨dl, od, su, be⟩ p = ⟨dl, od, su, be⟩ := if_neg h1
    unfold readF
    simp only [hof] at ho hbl ⊢
    by_cases h2 : p.life = dl ∧ su ≤ p.num ∧ p.num ≤ od.length
    · rw [if_pos h2]
      have e2 := spec_l01Image (l := be) (w := seg od su p.num) v ho.bel (by omega) (by have := seg_len (l := od) (a := su) (b := p.num); omega) fun l hl => ho.ord l (mem_seg hl)
      have e3 := spec_l08With (l := imgL nx be (seg od su p.num)) (x := p.val) v (fun q hq => by
        obtain ⟨q0, hq0, rfl⟩ := ((imgL_spec nx be (seg od su p.num)).2 q).1 hq
        exact runS_range v.nx _ (ho.bel q0 hq0) fun l hl => ho.ord l (mem_seg hl)) (by have := imgL_length nx be (seg od su p.num); omega)
      unfold ints at e2
      rw [← seg_part] at e2
      have e4 := spec_l00In (n := p.num) (lo := su) (hi := ((od.map (D.int .i64)).length : Nat))
      rw [show inB p.num su ((od.map (D.int .i64)).length : Nat) = true by simp [inB]; omega] at e4
      unfold plB dsC wrC pkD ltD
      refine hc_intro tabIs _ Tryz.func145 rfl rfl Tryz.ntmps145 rfl rfl rfl ?_ fun w0 ok0 XM XA anc => ?_
      · exact likeIn_cons rfl rfl fun p hp ha => by simp at hp; rcases hp with rfl | rfl <;> cases ha
      repeat (first | refine zc ?_ | ((first | apply x_l | apply x_q | apply x_lr | apply x_qr); (focus (first | (apply qa_slice_lh; (iterate 10 (focus (first | exact rfl | (first | assumption | omega | (simp; omega) | (simp; done) | rfl))))))); exact rfl) | ((first | apply c_l | apply c_q | apply c_lr | apply c_qr); (iterate 2 exact rfl); (focus (first | exact e4 | exact e2 | exact e3)); (iterate 2 exact rfl)) | (apply v_x; (iterate 2 exact rfl); (focus (intro ok0 nw hle; (first | (apply qa_slice_lh; (iterate 10 (focus (first | exact rfl | (first | assumption | omega | (simp; omega) | (simp; done) | rfl)))))))); (iterate 2 exact rfl)) | (apply v_c; (iterate 4 exact rfl); (focus (first | exact e4 | exact e2 | exact e3)); (iterate 2 exact rfl)) | refine zv ?_ | refine zg ?_)
      (refine u_eH [(10000, 10000), (20000, 20000), (20001, 20001)] ?_ ?_)
      · rfl
      · rfl
    · rw [if_neg h2]
      have e4 := spec_l00In (n := p.num) (lo := su) (hi := ((od.map (D.int .i64)).length : Nat))
      by_cases h3 : p.life = dl
      · rw [show inB p.num su ((od.map (D.int .i64)).length : Nat) = false by simp [inB]; omega] at e4
        unfold plB dsC wrC pkD ltD
        refine hc_intro tabIs _ Tryz.func145 rfl rfl Tryz.ntmps145 rfl rfl rfl ?_ fun w0 ok0 XM XA anc => ?_
        · exact likeIn_cons rfl rfl fun p hp ha => by simp at hp; rcases hp with rfl | rfl <;> cases ha
        repeat (first | refine zc ?_ | ((first | apply c_l | apply c_q | apply c_lr | apply c_qr); (iterate 2 exact rfl); (focus (first | exact e4)); (iterate 2 exact rfl)) | (apply v_c; (iterate 4 exact rfl); (focus (first | exact e4)); (iterate 2 exact rfl)) | refine zv ?_ | refine zg ?_)
        (refine awp_ret ?_; (repeat (first | refine then_r ?_ | refine block_r ?_ | refine loop_r ?_)); refine u_rH [(10000, 10000), (20000, 20000), (20001, 20001)] ?_ ?_)
        · rfl
        · rfl
      · unfold plB dsC wrC pkD ltD
        refine hc_intro tabIs _ Tryz.func145 rfl rfl Tryz.ntmps145 rfl rfl rfl ?_ fun w0 ok0 XM XA anc => ?_
        · exact likeIn_cons rfl rfl fun p hp ha => by simp at hp; rcases hp with rfl | rfl <;> cases ha
        repeat (first | refine zc ?_ | refine zv ?_ | refine zg ?_)
        (refine awp_ret ?_; (repeat (first | refine then_r ?_ | refine block_r ?_ | refine loop_r ?_)); refine u_rH [(10000, 10000), (20000, 20000), (20001, 20001)] ?_ ?_)
        · rfl
        · rfl

theorem plan_l08In {pL : D} {pB : Bool} {pS : List (Int × Int)} {s : Int} {nx : List (List Int)} {lp : List Int} {k : Nat} {n : Ln} {p : Pk} (v : LV s nx lp) (h : LnOk s nx k n) (hp : PkOk s nx k p) (hk : k ≤ 1000) :
    HC Tryz.prog 137 [.d (.ptr (ltD s nx lp)), .ref 10000 1, .d (pkD p)] [(10000, plB (.own 20000) (.own 20001) pL pB n), (20000, wrC n.wire), (20001, dsC pS)] (.d (.tup [])) [(10000, plB (.own 20000) (.own 20001) pL pB (inF s nx lp n p)), (20000, wrC n.wire), (20001, dsC pS)] := by
  have c1 := plan_l08Read (pL := pL) (pB := pB) (pS := pS) (n := n) v h.d hp
  have htk := h.tk
  have hst := h.st
  unfold inF
  by_cases hr : p.rep = true
  · rw [if_pos hr]
    unfold plB dsC wrC pkD ltD at *
    rw [hr] at c1 ⊢
    refine hc_intro tabIs _ Tryz.func137 rfl rfl Tryz.ntmps137 rfl rfl rfl ?_ fun w0 ok0 XM XA anc => ?_
    · exact likeIn_cons rfl rfl fun p hp ha => by simp at hp; rcases hp with rfl | rfl <;> cases ha
    repeat (first | refine zcn ?_ | refine zv ?_)
    refine awp_draw_tail 5 ?_ ?_ ?_ ?_
    · exact mixedIs
    · (as_aux_lemma => kernel_rfl)
    · exact rfl
    repeat (first | refine zcn ?_ | refine zv ?_)
    refine hcl [(10000, 10000), (20000, 20000), (20001, 20001)] [(10000, 10000), (20000, 20000), (20001, 20001)] c1 ?_
    repeat (first | refine zc ?_ | refine zv ?_)
    (refine awp_ret ?_; (repeat (first | refine then_r ?_ | refine block_r ?_ | refine loop_r ?_)); refine u_rH [(10000, 10000), (20000, 20000), (20001, 20001)] ?_ ?_)
    · rfl
    · rfl
  · rw [if_neg hr]
    have hrf : p.rep = false := by simpa using hr
    by_cases h1 : p.life = n.life
    · by_cases h2 : p.num = n.tk
      · rw [if_pos ⟨h1, h2⟩]
        have hl := hp.vo hrf
        have r1 := el_row2 hl
        have l1 := tbl_row v.nx hl
        have q1 : (List.map (D.int .i64) (row nx p.val))[n.st.toNat]? = some (.int .i64 (at2 nx p.val n.st)) := el_int2 (ns := row nx p.val) (q := n.st) (by omega)
        unfold plB dsC wrC pkD ltD
        rw [hrf]
        refine hc_intro tabIs _ Tryz.func137 rfl rfl Tryz.ntmps137 rfl rfl rfl ?_ fun w0 ok0 XM XA anc => ?_
        · exact likeIn_cons rfl rfl fun p hp ha => by simp at hp; rcases hp with rfl | rfl <;> cases ha
        repeat (first | refine zc ?_ | refine zv ?_ | refine zg ?_)
        (refine u_eH [(10000, 10000), (20000, 20000), (20001, 20001)] ?_ ?_)
        · rfl
        · rfl
      · rw [if_neg fun e => h2 e.2]
        unfold plB dsC wrC pkD ltD
        rw [hrf]
        refine hc_intro tabIs _ Tryz.func137 rfl rfl Tryz.ntmps137 rfl rfl rfl ?_ fun w0 ok0 XM XA anc => ?_
        · exact likeIn_cons rfl rfl fun p hp ha => by simp at hp; rcases hp with rfl | rfl <;> cases ha
        repeat (first | refine zc ?_ | refine zv ?_ | refine zg ?_)
        (refine u_eH [(10000, 10000), (20000, 20000), (20001, 20001)] ?_ ?_)
        · rfl
        · rfl
    · rw [if_neg fun e => h1 e.1]
      unfold plB dsC wrC pkD ltD
      rw [hrf]
      refine hc_intro tabIs _ Tryz.func137 rfl rfl Tryz.ntmps137 rfl rfl rfl ?_ fun w0 ok0 XM XA anc => ?_
      · exact likeIn_cons rfl rfl fun p hp ha => by simp at hp; rcases hp with rfl | rfl <;> cases ha
      repeat (first | refine zc ?_ | refine zv ?_ | refine zg ?_)
      (refine u_eH [(10000, 10000), (20000, 20000), (20001, 20001)] ?_ ?_)
      · rfl
      · rfl

theorem plan_l08WireN {pL : D} {pB : Bool} {pS : List (Int × Int)} {s c a : Int} {nx : List (List Int)} {lp : List Int} {n : Ln} (hge : (n.wire.length : Int) ≤ a) :
    HC Tryz.prog 118 [.d (.ptr (ltD s nx lp)), .ref 10000 1, .d (deedD (c, a))] [(10000, plB (.own 20000) (.own 20001) pL pB n), (20000, wrC n.wire), (20001, dsC pS)] (.d (.int .i64 2)) [(10000, plB (.own 20000) (.own 20001) pL pB n), (20000, wrC n.wire), (20001, dsC pS)] := by
  have hwl : (n.wire.map pkD).length = n.wire.length := by simp
  unfold plB dsC wrC ltD deedD at *
  refine hc_intro tabIs _ Tryz.func118 rfl rfl Tryz.ntmps118 rfl rfl rfl ?_ fun w0 ok0 XM XA anc => ?_
  · exact likeIn_cons rfl rfl fun p hp ha => by simp at hp; rcases hp with rfl | rfl <;> cases ha
  repeat (first | refine zc ?_ | refine zv ?_)
  (refine awp_ret ?_; (repeat (first | refine then_r ?_ | refine block_r ?_ | refine loop_r ?_)); refine u_rH [(10000, 10000), (20000, 20000), (20001, 20001)] ?_ ?_)
  · rfl
  · rfl

theorem plan_l08Wire6 {pL : D} {pB : Bool} {pS : List (Int × Int)} {s a : Int} {nx : List (List Int)} {lp : List Int} {k : Nat} {n : Ln} (v : LV s nx lp) (h : LnOk s nx k n) (hk : k ≤ 1000) (ha : 0 ≤ a ∧ a ≤ 999) (hlt : a < n.wire.length) :
    HC Tryz.prog 118 [.d (.ptr (ltD s nx lp)), .ref 10000 1, .d (deedD (6, a))] [(10000, plB (.own 20000) (.own 20001) pL pB n), (20000, wrC n.wire), (20001, dsC pS)] (.d (.int .i64 0)) [(10000, plB (.own 20000) (.own 20001) pL pB n), (20000, wrC (n.wire.eraseIdx a.toNat)), (20001, dsC pS)] := by
  have hwl : (n.wire.map pkD).length = n.wire.length := by simp
  have hw10 := h.wl
  have he : wrC (n.wire.eraseIdx a.toNat) = .arr 90 4 ((n.wire.map pkD).take a.toNat ++ (n.wire.map pkD).drop (a.toNat + 1)) := by rw [← pk_erase]; rfl
  rw [he]
  have hp1 := partOf_len (i := 2 * (a + 1).toNat) (ys := n.wire.map pkD)
  have hp2 := partOf_len (i := 2 * a.toNat + 1) (ys := n.wire.map pkD)
  have hels : elsOk 4 ([] ++ partOf (2 * (a + 1).toNat) (n.wire.map pkD)) = true := elsOk_of fun y hy => pk_el n.wire y (partOf_mem hy)
  have hfin : ([] ++ partOf (2 * a.toNat + 1) (n.wire.map pkD)) ++ ([] ++ partOf (2 * (a + 1).toNat) (n.wire.map pkD)) = (n.wire.map pkD).take a.toNat ++ (n.wire.map pkD).drop (a.toNat + 1) := by
    rw [part_from, part_to, show (a + 1).toNat = a.toNat + 1 by omega]
    rfl
  unfold plB dsC wrC ltD deedD at *
  refine hc_intro tabIs _ Tryz.func118 rfl rfl Tryz.ntmps118 rfl rfl rfl ?_ fun w0 ok0 XM XA anc => ?_
  · exact likeIn_cons rfl rfl fun p hp ha => by simp at hp; rcases hp with rfl | rfl <;> cases ha
  repeat (first | refine zcn ?_ | refine zv ?_)
  refine u_d ?_
  repeat (first | refine zcn ?_ | refine zv ?_)
  refine u_m [(0, [33]), (9, [33])] (.tk [33] [1, 2, 3, 4, 5, 6, 7, 8] (.tk [] [0, 9, 10] .done)) ?_
  repeat (first | refine v_w (t := 33) ?_ | refine zc ?_ | refine u_w (t := 33) ?_ | ((first | apply x_l | apply x_q | apply x_lr | apply x_qr); (focus (first | (apply wv_view; (iterate 9 (focus (first | exact rfl | (first | assumption | omega | (simp; omega) | (simp; done) | rfl))))))); exact rfl) | (apply v_x; (iterate 2 exact rfl); (focus (intro ok0 nw hle; (first | (apply wv_view; (iterate 9 (focus (first | exact rfl | (first | assumption | omega | (simp; omega) | (simp; done) | rfl)))))))); (iterate 2 exact rfl)) | refine zv ?_)
  refine v_o (g := SV.kill [33]) (sv := .own 33) (ho := (by intro rest; apply wo_appendV; (iterate 15 exact rfl); exact (fun y hy => (pk_el n.wire y hy).1); (simp; omega); (simp; omega))) ?_
  repeat (first | refine zcn ?_ | refine zv ?_)
  refine u_m [(1, [44]), (9, [44]), (11, [44]), (14, [10000])] (.tk [44] [0, 2, 3, 4, 5, 6, 7, 8, 10] (.tk [] [1, 9, 11, 12, 13, 14] .done)) ?_
  repeat (first | refine v_w (t := 44) ?_ | refine zc ?_ | refine u_w (t := 44) ?_ | ((first | apply x_l | apply x_q | apply x_lr | apply x_qr); (focus (first | (apply wv_first; (iterate 8 (focus (first | exact rfl | (first | assumption | omega | (simp; omega) | (simp; done) | rfl))))))); exact rfl) | (apply v_x; (iterate 2 exact rfl); (focus (intro ok0 nw hle; (first | (apply wv_first; (iterate 8 (focus (first | exact rfl | (first | assumption | omega | (simp; omega) | (simp; done) | rfl)))))))); (iterate 2 exact rfl)) | refine zv ?_)
  refine v_o (g := SV.kill [44]) (sv := .own 44) (ho := (by intro rest; apply wo_appendV; (iterate 15 exact rfl); exact (fun y hy => (pk_el n.wire y hy).1); (simp; omega); (simp; omega))) ?_
  refine v_o (g := SV.kill [44]) (sv := .own 44) (ho := (by intro rest; apply wo_append; (iterate 14 exact rfl); exact hels; (simp; omega))) ?_
  repeat (first | refine zc ?_ | refine zv ?_)
  (refine awp_ret ?_; (repeat (first | refine then_r ?_ | refine block_r ?_ | refine loop_r ?_)); refine u_rH [(10000, 10000), (44, 20000), (20001, 20001)] ?_ ?_)
  · rfl
  · exact congrArg (fun l => some [(10000, Chunk.box [.d pL, .d (.int .i64 n.st), .d (.int .i64 n.life), .d (.int .i64 n.tk), .d (.int .i64 n.d.life), .d (ints n.d.ord), .d (.int .i64 n.d.sure), .d (ints n.d.bel), .d (.int .i64 n.sv.life), .d (ints n.sv.ord), .d (.int .i64 n.sv.sure), .d (ints n.sv.bel), .own 20000, .own 20001, .d (.bool pB)]), (20000, Chunk.arr 90 4 l), (20001, Chunk.arr 74 2 (pS.map deedD))]) hfin

theorem plan_l08Wire4 {pL : D} {pB : Bool} {pS : List (Int × Int)} {s a : Int} {nx : List (List Int)} {lp : List Int} {k : Nat} {n : Ln} (v : LV s nx lp) (h : LnOk s nx k n) (hk : k ≤ 1000) (ha : 0 ≤ a ∧ a ≤ 999) (hlt : a < n.wire.length) :
    HC Tryz.prog 118 [.d (.ptr (ltD s nx lp)), .ref 10000 1, .d (deedD (4, a))] [(10000, plB (.own 20000) (.own 20001) pL pB n), (20000, wrC n.wire), (20001, dsC pS)] (.d (.int .i64 0)) [(10000, plB (.own 20000) (.own 20001) pL pB (inF s nx lp n (n.wire.getD a.toNat pk0))), (20000, wrC (n.wire.eraseIdx a.toNat)), (20001, dsC pS)] := by
  have hwl : (n.wire.map pkD).length = n.wire.length := by simp
  have hw10 := h.wl
  have he : wrC (n.wire.eraseIdx a.toNat) = .arr 90 4 ((n.wire.map pkD).take a.toNat ++ (n.wire.map pkD).drop (a.toNat + 1)) := by rw [← pk_erase]; rfl
  rw [he]
  have hp1 := partOf_len (i := 2 * (a + 1).toNat) (ys := n.wire.map pkD)
  have hp2 := partOf_len (i := 2 * a.toNat + 1) (ys := n.wire.map pkD)
  have hels : elsOk 4 ([] ++ partOf (2 * (a + 1).toNat) (n.wire.map pkD)) = true := elsOk_of fun y hy => pk_el n.wire y (partOf_mem hy)
  have hfin : ([] ++ partOf (2 * a.toNat + 1) (n.wire.map pkD)) ++ ([] ++ partOf (2 * (a + 1).toNat) (n.wire.map pkD)) = (n.wire.map pkD).take a.toNat ++ (n.wire.map pkD).drop (a.toNat + 1) := by
    rw [part_from, part_to, show (a + 1).toNat = a.toNat + 1 by omega]
    rfl
  have hpk : PkOk s nx k (n.wire.getD a.toNat pk0) := by
    have : a.toNat < n.wire.length := by omega
    rw [List.getD_eq_getElem?_getD, List.getElem?_eq_getElem this]
    exact h.wire _ (List.getElem_mem this)
  have c1 := plan_l08In (pL := pL) (pB := pB) (pS := pS) v h hpk hk
  have hx := pk_at (l := n.wire) (a := a) (by omega)
  generalize n.wire.getD a.toNat pk0 = p at *
  generalize inF s nx lp n p = n' at *
  unfold plB dsC wrC ltD deedD at *
  refine hc_intro tabIs _ Tryz.func118 rfl rfl Tryz.ntmps118 rfl rfl rfl ?_ fun w0 ok0 XM XA anc => ?_
  · exact likeIn_cons rfl rfl fun p hp ha => by simp at hp; rcases hp with rfl | rfl <;> cases ha
  repeat (first | refine zcn ?_ | refine zv ?_)
  refine u_d ?_
  repeat (first | refine zcn ?_ | refine zv ?_)
  refine awp_draw_tail 10 ?_ ?_ ?_ ?_
  · exact mixedIs
  · (as_aux_lemma => kernel_rfl)
  · exact rfl
  repeat (first | refine zcn ?_ | ((first | apply x_l | apply x_q | apply x_lr | apply x_qr); (focus (first | (apply wp_loadAgg; (iterate 6 (focus (first | exact rfl | (first | assumption | omega | (simp; omega) | (simp; done) | rfl))))))); exact rfl) | (apply v_x; (iterate 2 exact rfl); (focus (intro ok0 nw hle; (first | (apply wp_loadAgg; (iterate 6 (focus (first | exact rfl | (first | assumption | omega | (simp; omega) | (simp; done) | rfl)))))))); (iterate 2 exact rfl)) | refine zv ?_)
  refine hcl [(10000, 10000), (20000, 20000), (20001, 20001)] [(10000, 10000), (20000, 20000), (20001, 20001)] c1 ?_
  repeat (first | refine zcn ?_ | refine zv ?_)
  refine u_m [(0, [33]), (9, [33])] (.tk [33] [1, 2, 3, 4, 5, 6, 7, 8] (.tk [] [0, 9, 10] .done)) ?_
  repeat (first | refine v_w (t := 33) ?_ | refine zc ?_ | refine u_w (t := 33) ?_ | ((first | apply x_l | apply x_q | apply x_lr | apply x_qr); (focus (first | (apply wv_view; (iterate 9 (focus (first | exact rfl | (first | assumption | omega | (simp; omega) | (simp; done) | rfl))))))); exact rfl) | (apply v_x; (iterate 2 exact rfl); (focus (intro ok0 nw hle; (first | (apply wv_view; (iterate 9 (focus (first | exact rfl | (first | assumption | omega | (simp; omega) | (simp; done) | rfl)))))))); (iterate 2 exact rfl)) | refine zv ?_)
  refine v_o (g := SV.kill [33]) (sv := .own 33) (ho := (by intro rest; apply wo_appendV; (iterate 15 exact rfl); exact (fun y hy => (pk_el n.wire y hy).1); (simp; omega); (simp; omega))) ?_
  repeat (first | refine zcn ?_ | refine zv ?_)
  refine u_m [(1, [44]), (9, [44]), (11, [44]), (14, [10000])] (.tk [44] [0, 2, 3, 4, 5, 6, 7, 8, 10] (.tk [] [1, 9, 11, 12, 13, 14] .done)) ?_
  repeat (first | refine v_w (t := 44) ?_ | refine zc ?_ | refine u_w (t := 44) ?_ | ((first | apply x_l | apply x_q | apply x_lr | apply x_qr); (focus (first | (apply wv_first; (iterate 8 (focus (first | exact rfl | (first | assumption | omega | (simp; omega) | (simp; done) | rfl))))))); exact rfl) | (apply v_x; (iterate 2 exact rfl); (focus (intro ok0 nw hle; (first | (apply wv_first; (iterate 8 (focus (first | exact rfl | (first | assumption | omega | (simp; omega) | (simp; done) | rfl)))))))); (iterate 2 exact rfl)) | refine zv ?_)
  refine v_o (g := SV.kill [44]) (sv := .own 44) (ho := (by intro rest; apply wo_appendV; (iterate 15 exact rfl); exact (fun y hy => (pk_el n.wire y hy).1); (simp; omega); (simp; omega))) ?_
  refine v_o (g := SV.kill [44]) (sv := .own 44) (ho := (by intro rest; apply wo_append; (iterate 14 exact rfl); exact hels; (simp; omega))) ?_
  repeat (first | refine zc ?_ | refine zv ?_)
  (refine awp_ret ?_; (repeat (first | refine then_r ?_ | refine block_r ?_ | refine loop_r ?_)); refine u_rH [(10000, 10000), (44, 20000), (20001, 20001)] ?_ ?_)
  · rfl
  · exact congrArg (fun l => some [(10000, Chunk.box [.d pL, .d (.int .i64 n'.st), .d (.int .i64 n'.life), .d (.int .i64 n'.tk), .d (.int .i64 n'.d.life), .d (ints n'.d.ord), .d (.int .i64 n'.d.sure), .d (ints n'.d.bel), .d (.int .i64 n'.sv.life), .d (ints n'.sv.ord), .d (.int .i64 n'.sv.sure), .d (ints n'.sv.bel), .own 20000, .own 20001, .d (.bool pB)]), (20000, Chunk.arr 90 4 l), (20001, Chunk.arr 74 2 (pS.map deedD))]) hfin

theorem plan_l08Do {pL : D} {pB : Bool} {pS : List (Int × Int)} {s c a : Int} {nx : List (List Int)} {lp : List Int} {k : Nat} {n : Ln} (hv : litOk s nx lp = true) (h : LnOk s nx k n) (hk : k ≤ 1000) (hd : ddOk (c, a)) (hc : c = 1 ∨ c = 2 ∨ c = 3 ∨ c = 4 ∨ c = 6 ∨ c = 8) :
    HC Tryz.prog 81 [.d (.ptr (ltD s nx lp)), .ref 10000 1, .d (deedD (c, a))] [(10000, plB (.own 20000) (.own 20001) pL pB n), (20000, wrC n.wire), (20001, dsC pS)] (.d (.int .i64 (doF s nx lp n c a).2)) [(10000, plB (.own 20000) (.own 20001) pL pB (doF s nx lp n c a).1), (20000, wrC (doF s nx lp n c a).1.wire), (20001, dsC pS)] := by
  have v := lv_of hv
  have hs1 := v.s1
  have hn1 := v.n1
  obtain ⟨d1, d2, d3, d4⟩ := hd
  dsimp only at d1 d2 d3 d4
  have hol := h.d.len
  have hsl := h.sv.len
  have hml : (List.map ints nx).length = nx.length := by simp
  have hodl : (n.d.ord.map (D.int .i64)).length = n.d.ord.length := by simp
  have hsvl : (n.sv.ord.map (D.int .i64)).length = n.sv.ord.length := by simp
  have hlf := h.life
  rcases hc with rfl | rfl | rfl | rfl | rfl | rfl
  · unfold doF
    rw [if_pos rfl]
    by_cases h1 : (nx.length : Int) ≤ a
    · rw [if_pos h1]
      unfold plB dsC wrC ltD deedD
      refine hc_intro tabIs _ Tryz.func81 rfl rfl Tryz.ntmps81 rfl rfl rfl ?_ fun w0 ok0 XM XA anc => ?_
      · exact likeIn_cons rfl rfl fun p hp ha => by simp at hp; rcases hp with rfl | rfl <;> cases ha
      repeat (first | refine zc ?_ | refine zv ?_)
      (refine awp_ret ?_; (repeat (first | refine then_r ?_ | refine block_r ?_ | refine loop_r ?_)); refine u_rH [(10000, 10000), (20000, 20000), (20001, 20001)] ?_ ?_)
      · rfl
      · rfl
    · rw [if_neg h1]
      by_cases h2 : n.d.ord.length = 60
      · rw [if_pos h2]
        unfold plB dsC wrC ltD deedD
        refine hc_intro tabIs _ Tryz.func81 rfl rfl Tryz.ntmps81 rfl rfl rfl ?_ fun w0 ok0 XM XA anc => ?_
        · exact likeIn_cons rfl rfl fun p hp ha => by simp at hp; rcases hp with rfl | rfl <;> cases ha
        repeat (first | refine zc ?_ | refine zv ?_)
        (refine awp_ret ?_; (repeat (first | refine then_r ?_ | refine block_r ?_ | refine loop_r ?_)); refine u_rH [(10000, 10000), (20000, 20000), (20001, 20001)] ?_ ?_)
        · rfl
        · rfl
      · rw [if_neg h2]
        have e1 := spec_l00OwnH (ns := n.d.ord) (by omega)
        have ei : ints (n.d.ord ++ [a]) = .lst (n.d.ord.map (.int .i64) ++ [.int .i64 a]) := by simp [ints]
        unfold plB dsC wrC ltD deedD
        dsimp only
        rw [ei]
        refine hc_intro tabIs _ Tryz.func81 rfl rfl Tryz.ntmps81 rfl rfl rfl ?_ fun w0 ok0 XM XA anc => ?_
        · exact likeIn_cons rfl rfl fun p hp ha => by simp at hp; rcases hp with rfl | rfl <;> cases ha
        repeat (first | refine zcn ?_ | refine zv ?_)
        refine u_d ?_
        repeat (first | refine zcn ?_ | refine zv ?_)
        refine u_m [(6, [500]), (10, [500]), (14, [10000])] (.tk [500] [0, 1, 2, 3, 4, 5, 7, 8, 9] (.tk [] [6, 10, 11, 12, 13, 14] .done)) ?_
        repeat (first | refine zc ?_ | refine zv ?_)
        refine hclM [] [(30000, 500)] e1 ?_
        repeat (first | refine zcr ?_ | refine zv ?_)
        refine awp_freeze 500 rfl rfl ?_
        repeat (first | refine zc ?_ | refine zv ?_)
        (refine awp_ret ?_; (repeat (first | refine then_r ?_ | refine block_r ?_ | refine loop_r ?_)); refine u_rH [(10000, 10000), (20000, 20000), (20001, 20001)] ?_ ?_)
        · rfl
        · rfl
  · unfold doF
    rw [if_neg (by decide), if_pos rfl]
    by_cases h1 : (n.sv.ord.length : Int) ≤ a
    · rw [if_pos h1]
      unfold plB dsC wrC ltD deedD
      refine hc_intro tabIs _ Tryz.func81 rfl rfl Tryz.ntmps81 rfl rfl rfl ?_ fun w0 ok0 XM XA anc => ?_
      · exact likeIn_cons rfl rfl fun p hp ha => by simp at hp; rcases hp with rfl | rfl <;> cases ha
      repeat (first | refine zc ?_ | refine zv ?_)
      (refine awp_ret ?_; (repeat (first | refine then_r ?_ | refine block_r ?_ | refine loop_r ?_)); refine u_rH [(10000, 10000), (20000, 20000), (20001, 20001)] ?_ ?_)
      · rfl
      · rfl
    · rw [if_neg h1]
      have hx : (n.sv.ord.map (D.int .i64))[a.toNat]? = some (.int .i64 (n.sv.ord.getD a.toNat 0)) := el_int2 (ns := n.sv.ord) (q := a) (by omega)
      have c1 := plan_l08Send (pL := pL) (pB := pB) (pS := pS) (n := n) (p := ⟨false, n.sv.life, a, n.sv.ord.getD a.toNat 0⟩) h.wl
      generalize n.sv.ord.getD a.toNat 0 = x at *
      generalize sendF n ⟨false, n.sv.life, a, x⟩ = r at *
      unfold plB dsC wrC ltD deedD pkD at *
      refine hc_intro tabIs _ Tryz.func81 rfl rfl Tryz.ntmps81 rfl rfl rfl ?_ fun w0 ok0 XM XA anc => ?_
      · exact likeIn_cons rfl rfl fun p hp ha => by simp at hp; rcases hp with rfl | rfl <;> cases ha
      repeat (first | refine zcn ?_ | refine zv ?_)
      refine u_d ?_
      repeat (first | refine zcn ?_ | refine zv ?_)
      refine awp_draw_tail 18 ?_ ?_ ?_ ?_
      · exact mixedIs
      · (as_aux_lemma => kernel_rfl)
      · exact rfl
      repeat (first | refine zc ?_ | refine zv ?_)
      refine hcl [(10000, 10000), (20000, 20000), (20001, 20001)] [(10000, 10000), (20000, 20000), (20001, 20001)] c1 ?_
      repeat (first | refine zc ?_ | refine zv ?_)
      (refine awp_ret ?_; (repeat (first | refine then_r ?_ | refine block_r ?_ | refine loop_r ?_)); refine u_rH [(10000, 10000), (20000, 20000), (20001, 20001)] ?_ ?_)
      · rfl
      · rfl
  · unfold doF
    rw [if_neg (by decide), if_neg (by decide), if_pos rfl]
    have hst := h.st
    have hlp := v.lp
    have hx : (lp.map (D.int .i64))[n.st.toNat]? = some (.int .i64 (lamp lp n.st)) := el_int2 (ns := lp) (q := n.st) (by omega)
    have hlpl : (lp.map (D.int .i64)).length = lp.length := by simp
    have c1 := plan_l08Send (pL := pL) (pB := pB) (pS := pS) (n := n) (p := ⟨true, n.life, n.tk, lamp lp n.st⟩) h.wl
    generalize lamp lp n.st = x at *
    generalize sendF n ⟨true, n.life, n.tk, x⟩ = r at *
    unfold plB dsC wrC ltD deedD pkD at *
    refine hc_intro tabIs _ Tryz.func81 rfl rfl Tryz.ntmps81 rfl rfl rfl ?_ fun w0 ok0 XM XA anc => ?_
    · exact likeIn_cons rfl rfl fun p hp ha => by simp at hp; rcases hp with rfl | rfl <;> cases ha
    repeat (first | refine zcn ?_ | refine zv ?_)
    refine awp_draw_tail 20 ?_ ?_ ?_ ?_
    · exact mixedIs
    · (as_aux_lemma => kernel_rfl)
    · exact rfl
    repeat (first | refine zc ?_ | refine zv ?_)
    refine hcl [(10000, 10000), (20000, 20000), (20001, 20001)] [(10000, 10000), (20000, 20000), (20001, 20001)] c1 ?_
    repeat (first | refine zc ?_ | refine zv ?_)
    (refine awp_ret ?_; (repeat (first | refine then_r ?_ | refine block_r ?_ | refine loop_r ?_)); refine u_rH [(10000, 10000), (20000, 20000), (20001, 20001)] ?_ ?_)
    · rfl
    · rfl
  · by_cases h1 : (n.wire.length : Int) ≤ a
    · have e : doF s nx lp n 4 a = (n, 2) := by unfold doF; rw [if_neg (by decide), if_neg (by decide), if_neg (by decide), if_neg (by decide), if_neg (by decide), if_neg (by decide), if_pos h1]
      rw [e]
      have c1 := plan_l08WireN (pL := pL) (pB := pB) (pS := pS) (s := s) (c := 4) (nx := nx) (lp := lp) h1
      unfold plB dsC wrC ltD deedD at *
      refine hc_intro tabIs _ Tryz.func81 rfl rfl Tryz.ntmps81 rfl rfl rfl ?_ fun w0 ok0 XM XA anc => ?_
      · exact likeIn_cons rfl rfl fun p hp ha => by simp at hp; rcases hp with rfl | rfl <;> cases ha
      repeat (first | refine zc ?_ | refine zv ?_)
      refine hcl [(10000, 10000), (20000, 20000), (20001, 20001)] [(10000, 10000), (20000, 20000), (20001, 20001)] c1 ?_
      repeat (first | refine zc ?_ | refine zv ?_)
      (refine awp_ret ?_; (repeat (first | refine then_r ?_ | refine block_r ?_ | refine loop_r ?_)); refine u_rH [(10000, 10000), (20000, 20000), (20001, 20001)] ?_ ?_)
      · rfl
      · rfl
    · have e : doF s nx lp n 4 a = ({ inF s nx lp n (n.wire.getD a.toNat pk0) with wire := n.wire.eraseIdx a.toNat }, 0) := by unfold doF; rw [if_neg (by decide), if_neg (by decide), if_neg (by decide), if_neg (by decide), if_neg (by decide), if_neg (by decide), if_neg h1, if_neg (by decide), if_neg (by decide)]
      have c1 := plan_l08Wire4 (pL := pL) (pB := pB) (pS := pS) v h hk ⟨d3, d4⟩ (by omega)
      rw [e]
      generalize n.wire.getD a.toNat pk0 = p at *
      generalize inF s nx lp n p = n' at *
      unfold plB dsC wrC ltD deedD at *
      refine hc_intro tabIs _ Tryz.func81 rfl rfl Tryz.ntmps81 rfl rfl rfl ?_ fun w0 ok0 XM XA anc => ?_
      · exact likeIn_cons rfl rfl fun p hp ha => by simp at hp; rcases hp with rfl | rfl <;> cases ha
      repeat (first | refine zc ?_ | refine zv ?_)
      refine hcl [(10000, 10000), (20000, 20000), (20001, 20001)] [(10000, 10000), (20000, 20000), (20001, 20001)] c1 ?_
      repeat (first | refine zc ?_ | refine zv ?_)
      (refine awp_ret ?_; (repeat (first | refine then_r ?_ | refine block_r ?_ | refine loop_r ?_)); refine u_rH [(10000, 10000), (20000, 20000), (20001, 20001)] ?_ ?_)
      · rfl
      · rfl
  · by_cases h1 : (n.wire.length : Int) ≤ a
    · have e : doF s nx lp n 6 a = (n, 2) := by unfold doF; rw [if_neg (by decide), if_neg (by decide), if_neg (by decide), if_neg (by decide), if_neg (by decide), if_neg (by decide), if_pos h1]
      rw [e]
      have c1 := plan_l08WireN (pL := pL) (pB := pB) (pS := pS) (s := s) (c := 6) (nx := nx) (lp := lp) h1
      unfold plB dsC wrC ltD deedD at *
      refine hc_intro tabIs _ Tryz.func81 rfl rfl Tryz.ntmps81 rfl rfl rfl ?_ fun w0 ok0 XM XA anc => ?_
      · exact likeIn_cons rfl rfl fun p hp ha => by simp at hp; rcases hp with rfl | rfl <;> cases ha
      repeat (first | refine zc ?_ | refine zv ?_)
      refine hcl [(10000, 10000), (20000, 20000), (20001, 20001)] [(10000, 10000), (20000, 20000), (20001, 20001)] c1 ?_
      repeat (first | refine zc ?_ | refine zv ?_)
      (refine awp_ret ?_; (repeat (first | refine then_r ?_ | refine block_r ?_ | refine loop_r ?_)); refine u_rH [(10000, 10000), (20000, 20000), (20001, 20001)] ?_ ?_)
      · rfl
      · rfl
    · have e : doF s nx lp n 6 a = ({ n with wire := n.wire.eraseIdx a.toNat }, 0) := by unfold doF; rw [if_neg (by decide), if_neg (by decide), if_neg (by decide), if_neg (by decide), if_neg (by decide), if_neg (by decide), if_neg h1, if_pos rfl, if_neg (by decide)]
      have c1 := plan_l08Wire6 (pL := pL) (pB := pB) (pS := pS) v h hk ⟨d3, d4⟩ (by omega)
      rw [e]
      unfold plB dsC wrC ltD deedD at *
      refine hc_intro tabIs _ Tryz.func81 rfl rfl Tryz.ntmps81 rfl rfl rfl ?_ fun w0 ok0 XM XA anc => ?_
      · exact likeIn_cons rfl rfl fun p hp ha => by simp at hp; rcases hp with rfl | rfl <;> cases ha
      repeat (first | refine zc ?_ | refine zv ?_)
      refine hcl [(10000, 10000), (20000, 20000), (20001, 20001)] [(10000, 10000), (20000, 20000), (20001, 20001)] c1 ?_
      repeat (first | refine zc ?_ | refine zv ?_)
      (refine awp_ret ?_; (repeat (first | refine then_r ?_ | refine block_r ?_ | refine loop_r ?_)); refine u_rH [(10000, 10000), (20000, 20000), (20001, 20001)] ?_ ?_)
      · rfl
      · rfl
  · unfold doF
    rw [if_neg (by decide), if_neg (by decide), if_neg (by decide), if_neg (by decide), if_pos rfl]
    have c1 := plan_l08OwnD (pL := pL) (pB := pB) (pS := pS) (n := n) (by omega) (h.d.bel_len (by omega))
    unfold plB dsC wrC ltD deedD dskD dskL at *
    refine hc_intro tabIs _ Tryz.func81 rfl rfl Tryz.ntmps81 rfl rfl rfl ?_ fun w0 ok0 XM XA anc => ?_
    · exact likeIn_cons rfl rfl fun p hp ha => by simp at hp; rcases hp with rfl | rfl <;> cases ha
    repeat (first | refine zc ?_ | refine zv ?_)
    refine hcl [(10000, 10000), (20000, 20000), (20001, 20001)] [(10000, 10000), (20000, 20000), (20001, 20001)] c1 ?_
    repeat (first | refine zc ?_ | refine zv ?_)
    (refine awp_ret ?_; (repeat (first | refine then_r ?_ | refine block_r ?_ | refine loop_r ?_)); refine u_rH [(10000, 10000), (20000, 20000), (20001, 20001)] ?_ ?_)
    · rfl
    · rfl

end Go.Proofs.YtampglcgipefnaaGreat

/-! A plan of the reference: a deed is done and kept; the machine is heard. No condition. -/
namespace Go.Proofs.YtampglcgipefnaaGreat
open Go
attribute [local irreducible] awp awpL awpQL awpQ awpM pWalk Qt AC thenQ blockQ loopQ OpTo
set_option linter.unusedVariables false
set_option linter.unusedSimpArgs false
set_option maxHeartbeats 2000000
attribute [local irreducible] HC

theorem plan_do {s c a : Int} {nx : List (List Int)} {lp : List Int} {k : Nat} {n : Ln} {pB : Bool} {pS : List (Int × Int)} (hv : litOk s nx lp = true) (h : LnOk s nx k n) (hk : k ≤ 1000) (hd : ddOk (c, a)) (hc : c = 1 ∨ c = 2 ∨ c = 3 ∨ c = 4 ∨ c = 6 ∨ c = 8) (hl : pS.length ≤ 100000) :
    HC Tryz.prog 63 [.ref 10000 0, .d (.int .i64 c), .d (.int .i64 a)] [(10000, plB (.own 20000) (.own 20001) (.ptr (ltD s nx lp)) pB n), (20000, wrC n.wire), (20001, dsC pS)] (.d (.tup []))
      [(10000, plB (.own 20000) (.own 20001) (.ptr (ltD s nx lp)) (pB || !decide ((doF s nx lp n c a).2 = 0)) (doF s nx lp n c a).1), (20000, wrC (doF s nx lp n c a).1.wire), (20001, dsC (pS ++ [(c, a)]))] := by
  have c1 := plan_l08Do (pL := .ptr (ltD s nx lp)) (pB := pB) (pS := pS ++ [(c, a)]) hv h hk hd hc
  have hs : dsC (pS ++ [(c, a)]) = .arr 74 2 (pS.map deedD ++ [deedD (c, a)]) := by simp [dsC]
  rw [hs] at c1 ⊢
  have hsl : (pS.map deedD).length = pS.length := by simp
  generalize doF s nx lp n c a = r at *
  unfold plB wrC dsC deedD ltD at *
  by_cases h0 : r.2 = 0
  · have e : (pB || !decide (r.2 = 0)) = pB := by rw [decide_eq_true h0]; simp
    rw [e]
    refine hc_intro tabIs _ Tryz.func63 rfl rfl Tryz.ntmps63 rfl rfl rfl ?_ fun w0 ok0 XM XA anc => ?_
    · exact likeIn_cons rfl rfl fun p hp ha => by simp at hp; rcases hp with rfl | rfl <;> cases ha
    repeat (first | refine zcn ?_ | refine zv ?_)
    refine u_m [(7, [20001]), (10, [10000])] (.tk [20001] [0] (.tk [] [1, 2, 3, 4, 5, 6, 7, 8, 9, 10] .done)) ?_
    repeat (first | refine zcn ?_ | refine zv ?_)
    refine u_m [(8, [10000, 20000, 20001])] (.tk [] [0, 1, 2, 3, 4, 5, 6, 7, 8, 9] .done) ?_
    repeat (first | refine zc ?_ | refine zv ?_)
    refine hclM [(10000, 10000), (20000, 20000), (20001, 20001)] [(10000, 10000), (20000, 20000), (20001, 20001)] c1 ?_
    repeat (first | refine zc ?_ | refine zv ?_)
    (refine u_eH [(10000, 10000), (20000, 20000), (20001, 20001)] ?_ ?_)
    · rfl
    · rfl
  · have e : (pB || !decide (r.2 = 0)) = true := by rw [decide_eq_false h0]; simp
    rw [e]
    refine hc_intro tabIs _ Tryz.func63 rfl rfl Tryz.ntmps63 rfl rfl rfl ?_ fun w0 ok0 XM XA anc => ?_
    · exact likeIn_cons rfl rfl fun p hp ha => by simp at hp; rcases hp with rfl | rfl <;> cases ha
    repeat (first | refine zcn ?_ | refine zv ?_)
    refine u_m [(7, [20001]), (10, [10000])] (.tk [20001] [0] (.tk [] [1, 2, 3, 4, 5, 6, 7, 8, 9, 10] .done)) ?_
    repeat (first | refine zcn ?_ | refine zv ?_)
    refine u_m [(8, [10000, 20000, 20001])] (.tk [] [0, 1, 2, 3, 4, 5, 6, 7, 8, 9] .done) ?_
    repeat (first | refine zc ?_ | refine zv ?_)
    refine hclM [(10000, 10000), (20000, 20000), (20001, 20001)] [(10000, 10000), (20000, 20000), (20001, 20001)] c1 ?_
    repeat (first | refine zc ?_ | refine zv ?_)
    (refine u_eH [(10000, 10000), (20000, 20000), (20001, 20001)] ?_ ?_)
    · rfl
    · rfl
end Go.Proofs.YtampglcgipefnaaGreat
