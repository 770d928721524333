/- AdaptiveRun: the walks and the law. No condition. -/
import Derived.Test.YtampglcgipefnaaDh
import Derived.Test.YtampglcgipefnaaFwS
namespace Go.Proofs.Ytampglcgipefnaa
open Go
attribute [local irreducible] awp awpL awpQL awpQ awpM pWalk Qt AC thenQ blockQ loopQ OpTo
set_option linter.unusedVariables false
set_option linter.unusedSimpArgs false
set_option maxHeartbeats 2000000
attribute [local irreducible] HC

theorem impl_AdaptiveRunH {s q : Int} {nx : List (List Int)} {lp l : List Int} (h : RowsOk nx) (h2 : lp.length ≤ 9223372036854775807) (h3 : l.length ≤ 9223372036854775807) :
    HC Try.prog 17 [.d (.agg [.int .i64 s, rows nx, ints lp]), .d (ints l), .d (.int .i64 q)] [] (.tup [.own 30000, .d (.int .i64 (rnD s nx lp l q).2.1), .d (.int .i64 (rnD s nx lp l q).2.2)]) [(30000, .arr 2 1 ((rnD s nx lp l q).1.map (.int .i64)))] := by
  have e1 := impl_adaptiveCode (s := s) (nx := nx) (lp := lp) (l := l) h h2 h3
  unfold rnD
  by_cases hc : adC s nx lp l = 0
  · obtain ⟨v, hv, hr, hm, hp, hb, hl⟩ := adC_facts hc
    have hs := v.s1
    have hn := v.n1
    rw [hc] at e1
    rw [if_pos hc]
    have e3 := impl_containsS (l := l) (q := q) h3
    by_cases hq : q ∈ l
    · rw [if_pos hq]
      rw [decide_eq_true hq] at e3
      have hq1 := hm q hq
      have e2 := impl_flockOf (l := l) (fun q hq => by have := hm q hq; omega) h3
      have hdr := dep_range (s := s) (nx := nx) (lp := lp) (f := bitsL 0 l)
      have hpw := pow_le (m := s.toNat) (by omega)
      have e4 := impl_adaptive v hb
      generalize bitsL 0 l = f0 at *
      by_cases h0 : 0 ≤ dep s nx lp f0
      · rw [if_pos h0]
        generalize hR : runA s nx lp (dep s nx lp f0).toNat f0 q [] = R at *
        refine hc_intro tabIs _ Try.func17 rfl rfl Try.ntmps17 rfl rfl rfl ?_ fun w0 ok0 XM XA anc => ?_
        · exact likeIn_nil
        repeat (first | refine v_w (t := 31) ?_ | refine zc ?_ | refine u_w (t := 31) ?_ | ((first | apply c_l | apply c_q | apply c_lr | apply c_qr); (iterate 2 exact rfl); (focus (first | exact e1 | exact e2 | exact e3)); (iterate 2 exact rfl)) | (apply v_c; (iterate 4 exact rfl); (focus (first | exact e1 | exact e2 | exact e3)); (iterate 2 exact rfl)) | refine zv ?_)
        refine awp_loop (fun p : Nat × Int × List Int × Nat => p.1 < 2 ^ s.toNat ∧ (0 ≤ p.2.1 ∧ p.2.1 < s) ∧ 0 ≤ dep s nx lp p.1 ∧ dep s nx lp p.1 ≤ p.2.2.2 ∧ p.2.2.1.length + p.2.2.2 ≤ 1024 ∧ runA s nx lp p.2.2.2 p.1 p.2.1 p.2.2.1 = R)
          (fun p => [(2, .d (.int .i64 p.2.1)), (3, .d (.ptr (.agg [.int .i64 s, rows nx, ints lp]))), (10, .d (.int .u64 p.1)), (11, .own 31)]) (fun p => [(31, .arr 2 1 (p.2.2.1.map (.int .i64)))]) (fun p => (dep s nx lp p.1).toNat) (f0, q, [], (dep s nx lp f0).toNat) (by exact ⟨hb, hq1, h0, by simp only []; omega, by simp only [List.length_nil]; omega, hR⟩) ?_ rfl ?_
        · exact zs
        · rintro ⟨f, q, out, k⟩ ⟨i1, i2, i3, i4, i5, i6⟩
          simp only [] at i1 i2 i3 i4 i5 i6 ⊢
          have e5 := impl_adaptive v i1
          have hlo : (out.map (D.int IntKind.i64)).length = out.length := by simp
          rw [if_pos i3, if_pos i3, decide_eq_true i3] at e5
          by_cases hz : dep s nx lp f = 0
          · rw [runA_end hz] at i6
            subst i6
            repeat (first | refine zc ?_ | ((first | apply c_l | apply c_q | apply c_lr | apply c_qr); (iterate 2 exact rfl); (focus (first | exact e5)); (iterate 2 exact rfl)) | (apply v_c; (iterate 4 exact rfl); (focus (first | exact e5)); (iterate 2 exact rfl)) | refine zv ?_)
            (refine awp_ret ?_; (repeat (first | refine then_r ?_ | refine block_r ?_ | refine loop_r ?_)); refine u_rH [(31, 30000)] ?_ ?_)
            · rfl
            · rfl
          · obtain ⟨x, y, q', st⟩ := stp hv i1 i2 (by omega)
            have hx' : 0 ≤ (x : Int) ∧ (x : Int) < nx.length := by have := st.x1; omega
            rw [st.l1] at e5
            have r1 := el_row2 hx'
            have hrow := tbl_row v.nx hx'
            have r2 : (List.map (D.int .i64) (row nx x))[q.toNat]? = some (.int .i64 q') := by
              have := el_int2 (ns := row nx x) (q := q) (by omega)
              rw [show (row nx x).getD q.toNat 0 = q' from st.a1] at this
              exact this
            have hq2 := st.q1
            have hlp := v.lp
            have r3 : (List.map (D.int .i64) lp)[q'.toNat]? = some (.int .i64 (y : Int)) := by
              have := el_int2 (ns := lp) (q := q') (by omega)
              rw [show lp.getD q'.toNat 0 = (y : Int) from st.y2] at this
              exact this
            have e8 := impl_believedN (y := y) v i1 st.x1
            have hd1 := st.d1
            have hr1 := st.r1 k out i4
            have hf1 := st.f1
            have hx2 := st.x1
            repeat (first | refine zcn ?_ | ((first | apply c_l | apply c_q | apply c_lr | apply c_qr); (iterate 2 exact rfl); (focus (first | exact e5)); (iterate 2 exact rfl)) | (apply v_c; (iterate 4 exact rfl); (focus (first | exact e5)); (iterate 2 exact rfl)) | refine zv ?_)
            refine u_m [(3, [31])] (.tk [] [0, 1, 2, 3] (.tk [31] [4, 5, 6, 7, 8, 9, 10, 11, 12] (.tk [] [13, 14] .done))) ?_
            repeat (first | refine zc ?_ | refine zv ?_)
            repeat (first | refine zc ?_ | ((first | apply c_l | apply c_q | apply c_lr | apply c_qr); (iterate 2 exact rfl); (focus (first | exact e8)); (iterate 2 exact rfl)) | (apply v_c; (iterate 4 exact rfl); (focus (first | exact e8)); (iterate 2 exact rfl)) | refine zv ?_)
            refine loop_n (bel nx lp f x y, q', out ++ [(x : Int)], k - 1) ⟨hf1, hq2, hd1.1, by simp only []; omega, by simp only [List.length_append, List.length_singleton]; omega, by rw [← hr1]; exact i6⟩ ?_ ?_ (by simp only []; omega)
            · exact zs
            · simp [killH, keepH, memB]
      · rw [if_neg h0]
        rw [if_neg h0, if_neg h0, decide_eq_false h0] at e4
        refine hc_intro tabIs _ Try.func17 rfl rfl Try.ntmps17 rfl rfl rfl ?_ fun w0 ok0 XM XA anc => ?_
        · exact likeIn_nil
        repeat (first | refine v_w (t := 31) ?_ | refine zc ?_ | refine u_w (t := 31) ?_ | ((first | apply c_l | apply c_q | apply c_lr | apply c_qr); (iterate 2 exact rfl); (focus (first | exact e1 | exact e2 | exact e3)); (iterate 2 exact rfl)) | (apply v_c; (iterate 4 exact rfl); (focus (first | exact e1 | exact e2 | exact e3)); (iterate 2 exact rfl)) | refine zv ?_)
        refine awp_loop (fun p : Unit => True) (fun p => [(2, .d (.int .i64 q)), (3, .d (.ptr (.agg [.int .i64 s, rows nx, ints lp]))), (10, .d (.int .u64 f0)), (11, .own 31)]) (fun p => [(31, .arr 2 1 [])]) (fun p => 0) () trivial ?_ rfl ?_
        · exact zs
        · intro _ _
          repeat (first | refine zc ?_ | ((first | apply c_l | apply c_q | apply c_lr | apply c_qr); (iterate 2 exact rfl); (focus (first | exact e4)); (iterate 2 exact rfl)) | (apply v_c; (iterate 4 exact rfl); (focus (first | exact e4)); (iterate 2 exact rfl)) | refine zv ?_)
          refine awp_nilSlot 6 7777 2 1 rfl rfl rfl ?_
          (refine awp_ret ?_; (repeat (first | refine then_r ?_ | refine block_r ?_ | refine loop_r ?_)); refine u_rH [(7777, 30000)] ?_ ?_)
          · rfl
          · rfl
    · rw [if_neg hq]
      rw [decide_eq_false hq] at e3
      refine hc_intro tabIs _ Try.func17 rfl rfl Try.ntmps17 rfl rfl rfl ?_ fun w0 ok0 XM XA anc => ?_
      · exact likeIn_nil
      repeat (first | refine zc ?_ | ((first | apply c_l | apply c_q | apply c_lr | apply c_qr); (iterate 2 exact rfl); (focus (first | exact e1 | exact e3)); (iterate 2 exact rfl)) | (apply v_c; (iterate 4 exact rfl); (focus (first | exact e1 | exact e3)); (iterate 2 exact rfl)) | refine zv ?_)
      refine awp_nilSlot 6 7777 2 1 rfl rfl rfl ?_
      (refine awp_ret ?_; (repeat (first | refine then_r ?_ | refine block_r ?_ | refine loop_r ?_)); refine u_rH [(7777, 30000)] ?_ ?_)
      · rfl
      · rfl
  · rw [if_neg hc]
    have ha : adC s nx lp l = 1 ∨ adC s nx lp l = 2 := by
      rcases adC_not hc with ⟨_, ha⟩ | ⟨_, _, ha⟩
      · exact .inl ha
      · exact .inr ha
    rcases ha with ha | ha
    · rw [ha] at e1 ⊢
      refine hc_intro tabIs _ Try.func17 rfl rfl Try.ntmps17 rfl rfl rfl ?_ fun w0 ok0 XM XA anc => ?_
      · exact likeIn_nil
      repeat (first | refine zc ?_ | ((first | apply c_l | apply c_q | apply c_lr | apply c_qr); (iterate 2 exact rfl); (focus (first | exact e1)); (iterate 2 exact rfl)) | (apply v_c; (iterate 4 exact rfl); (focus (first | exact e1)); (iterate 2 exact rfl)) | refine zv ?_)
      refine awp_nilSlot 6 7777 2 1 rfl rfl rfl ?_
      (refine awp_ret ?_; (repeat (first | refine then_r ?_ | refine block_r ?_ | refine loop_r ?_)); refine u_rH [(7777, 30000)] ?_ ?_)
      · rfl
      · rfl
    · rw [ha] at e1 ⊢
      refine hc_intro tabIs _ Try.func17 rfl rfl Try.ntmps17 rfl rfl rfl ?_ fun w0 ok0 XM XA anc => ?_
      · exact likeIn_nil
      repeat (first | refine zc ?_ | ((first | apply c_l | apply c_q | apply c_lr | apply c_qr); (iterate 2 exact rfl); (focus (first | exact e1)); (iterate 2 exact rfl)) | (apply v_c; (iterate 4 exact rfl); (focus (first | exact e1)); (iterate 2 exact rfl)) | refine zv ?_)
      refine awp_nilSlot 6 7777 2 1 rfl rfl rfl ?_
      (refine awp_ret ?_; (repeat (first | refine then_r ?_ | refine block_r ?_ | refine loop_r ?_)); refine u_rH [(7777, 30000)] ?_ ?_)
      · rfl
      · rfl

end Go.Proofs.Ytampglcgipefnaa
