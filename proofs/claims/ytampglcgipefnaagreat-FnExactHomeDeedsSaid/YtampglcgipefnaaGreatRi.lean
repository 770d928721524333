/- The law of HomeDeeds. No condition. -/
import Derived.Test.YtampglcgipefnaaGreatRf
import Derived.Test.YtampglcgipefnaaGreatRg
import Derived.Test.YtampglcgipefnaaGreatOs
namespace Go.Proofs.YtampglcgipefnaaGreat
open Go
attribute [local irreducible] awp awpL awpQL awpQ awpM pWalk Qt AC thenQ blockQ loopQ OpTo
set_option linter.unusedVariables false
set_option linter.unusedSimpArgs false
set_option maxHeartbeats 2000000
attribute [local irreducible] HC

theorem hmD_len {s st : Int} {nx : List (List Int)} {lp : List Int} {ds : List (Int × Int)} : (hmD s st nx lp ds).1.length ≤ 400 := by
  unfold hmD
  split
  · split
    · simp
    · split
      · simp
      · rename_i h
        show (hmR s nx lp _).1.length ≤ 400
        have : ¬ 400 < ds.length + (hmR s nx lp (runF s nx lp (ln0 s st) ds)).1.length := fun h2 => h (.inr h2)
        omega
  · simp
theorem law_ExactHomeDeeds {s st : Int} {nx : List (List Int)} {lp : List Int} {ds : List (Int × Int)} (g1 : I64 s) (h1 : RowsOk nx) (h2 : IntsOk lp) (g5 : I64 st) (h3 : ds.length ≤ 9223372036854775807) :
    AC Tryz.prog 6 [ltD s nx lp, .int .i64 st, deedsD ds] (.bool true) := by
  have hl := h2.2
  have hb : (0 : Int) ≤ 1048576 ∧ (1048576 : Int) ≤ 1048576 := by omega
  have e1 := laws_szLit (s := s) (nx := nx) (lp := lp) (left := 1048576) h1 hl hb
  by_cases hc : szLitF nx lp 1048576 < 0
  · unfold ltD
    refine ac_intro tabIs _ Tryz.func6 rfl rfl Tryz.ntmps6 rfl rfl fun w0 ok0 => ?_
    repeat (first | refine zc ?_ | ((first | apply c_l | apply c_q | apply c_lr | apply c_qr); (iterate 2 exact rfl); (focus (first | exact e1)); (iterate 2 exact rfl)) | (apply v_c; (iterate 4 exact rfl); (focus (first | exact e1)); (iterate 2 exact rfl)) | refine zv ?_)
    (refine awp_ret ?_; (repeat (first | refine then_r ?_ | refine block_r ?_ | refine loop_r ?_)); apply ret_ok (.inr rfl); (focus exact rfl))
    rfl
  · obtain ⟨a1, a2, a3⟩ := szLitF_ok hc
    have hle := szLit_le hc
    have e2 := laws_szDeedS (ds := ds) (left := szLitF nx lp 1048576) h3 hle
    by_cases hc2 : szL ds.length (szLitF nx lp 1048576) < 0
    · generalize szLitF nx lp 1048576 = left at *
      generalize szL ds.length left = left2 at *
      unfold ltD
      refine ac_intro tabIs _ Tryz.func6 rfl rfl Tryz.ntmps6 rfl rfl fun w0 ok0 => ?_
      repeat (first | refine zc ?_ | ((first | apply c_l | apply c_q | apply c_lr | apply c_qr); (iterate 2 exact rfl); (focus (first | exact e1 | exact e2)); (iterate 2 exact rfl)) | (apply v_c; (iterate 4 exact rfl); (focus (first | exact e1 | exact e2)); (iterate 2 exact rfl)) | refine zv ?_)
      (refine awp_ret ?_; (repeat (first | refine then_r ?_ | refine block_r ?_ | refine loop_r ?_)); apply ret_ok (.inr rfl); (focus exact rfl))
      rfl
    · have hdl : ds.length ≤ 1048576 := by
        have := (szL_le (n := ds.length) (left := szLitF nx lp 1048576) (by omega)).2 (by omega)
        omega
      have t1 := laws_toLit (s := s) a1 a2 a3
      have t2 := laws_toDeedS hdl
      have t3 := laws_toLitH (s := s) a1 a2 a3
      have t4 := laws_toDeedSH hdl
      have f1 := spec_HomeDeeds (s := s) (st := st) (ds := ds) h1 hl hdl
      have f2 := impl_HomeDeedsH (s := s) (st := st) (ds := ds) h1 hl hdl
      have f3 := impl_HomeDeedsH (s := s) (st := st) (ds := ds) h1 hl hdl
      have hbl := hmD_len (s := s) (st := st) (nx := nx) (lp := lp) (ds := ds)
      unfold ltD at f1 f2 f3
      rw [← rws_dat] at f3
      have htot := tot_bound a2
      have htb : tot nx ≤ 1048576 * 1048576 := Nat.le_trans htot (Nat.mul_le_mul_right _ a1)
      have m1 := laws_markLit (s := s) (nx := nx) (lp := lp) (k := 1) (by omega) (by omega) (by omega)
      have m2 := laws_markDeedS (ds := ds) (k := 1 + tot nx + lp.length) (by omega) (by omega)
      generalize hmD s st nx lp ds = o at *
      have m3 := laws_markDeedS (ds := o.1) (k := 1) (by omega) (by omega)
      have d3 := laws_heldDeedS (n := o.1.length) (k := 1) (by omega) (by omega)
      have q1 := laws_eqDeedS (ds := o.1) (by omega)
      have q2 := laws_eqDeedS hdl
      have q3 : AC Tryz.prog 15 [.agg [.int .i64 s, .lst ((rws nx).map D.lst), ints lp], .agg [.int .i64 s, rows nx, ints lp]] (.bool true) := by
        have := laws_eqLit (s := s) (s' := s) (nx := nx) (nx' := nx) (lp := lp) (lp' := lp) h1 h1 hl hl
        rw [rws_dat]
        simpa using this
      generalize szLitF nx lp 1048576 = left at *
      generalize szL ds.length left = left2 at *
      unfold deedsD dsC at *
      unfold ltD
      refine ac_intro tabIs _ Tryz.func6 rfl rfl Tryz.ntmps6 rfl rfl fun w0 ok0 => ?_
      repeat (first | refine zc ?_ | ((first | apply c_l | apply c_q | apply c_lr | apply c_qr); (iterate 2 exact rfl); (focus (first | exact e1 | exact e2)); (iterate 2 exact rfl)) | (apply v_c; (iterate 4 exact rfl); (focus (first | exact e1 | exact e2)); (iterate 2 exact rfl)) | refine zv ?_)
      (apply c_l; (iterate 2 exact rfl); (focus exact t1); (iterate 2 exact rfl))
      repeat (first | refine zc ?_ | refine zv ?_)
      (apply c_l; (iterate 2 exact rfl); (focus exact t2); (iterate 2 exact rfl))
      repeat (first | refine zc ?_ | ((first | apply c_l | apply c_q | apply c_lr | apply c_qr); (iterate 2 exact rfl); (focus (first | exact f1)); (iterate 2 exact rfl)) | (apply v_c; (iterate 4 exact rfl); (focus (first | exact f1)); (iterate 2 exact rfl)) | refine zv ?_)
      refine hcl [] [(30000, 500), (30001, 501)] t3 ?_
      repeat (first | refine zc ?_ | refine zv ?_)
      refine hcl [] [(30000, 502)] t4 ?_
      repeat (first | refine zc ?_ | refine zv ?_)
      refine hlend (xs := [.agg [.int .i64 s, .lst ((rws nx).map D.lst), ints lp], .int .i64 st, .lst (ds.map deedD)]) (cap := []) [(30000, 503)] f3 ?_ ?_ ?_
      · intro p hp
        simp at hp
        subst hp
        intro x hx
        simp at hx
        obtain ⟨a, b, _, rfl⟩ := hx
        rfl
      · exact ⟨trivial, rfl, trivial⟩
      repeat (first | refine zc ?_ | ((first | apply c_l | apply c_q | apply c_lr | apply c_qr); (iterate 2 exact rfl); (focus (first | exact q1 | exact q2 | exact q3 | exact t1 | exact t2)); (iterate 2 exact rfl)) | (apply v_c; (iterate 4 exact rfl); (focus (first | exact q1 | exact q2 | exact q3 | exact t1 | exact t2)); (iterate 2 exact rfl)) | refine zv ?_ | refine zg ?_)
      refine hcl [(500, 10000), (501, 10001)] [(10000, 500), (10001, 501)] m1 ?_
      repeat (first | refine zc ?_ | refine zv ?_)
      refine hcl [(502, 10000)] [(10000, 502)] m2 ?_
      repeat (first | refine zc ?_ | ((first | apply c_l | apply c_q | apply c_lr | apply c_qr); (iterate 2 exact rfl); (focus (first | exact q1)); (iterate 2 exact rfl)) | (apply v_c; (iterate 4 exact rfl); (focus (first | exact q1)); (iterate 2 exact rfl)) | refine zv ?_ | refine zg ?_)
      refine hcl [(503, 10000)] [(10000, 503)] m3 ?_
      repeat (first | refine zc ?_ | ((first | apply c_l | apply c_q | apply c_lr | apply c_qr); (iterate 2 exact rfl); (focus (first | exact d3)); (iterate 2 exact rfl)) | (apply v_c; (iterate 4 exact rfl); (focus (first | exact d3)); (iterate 2 exact rfl)) | refine zv ?_)
      (apply c_l; (iterate 2 exact rfl); (focus exact t1); (iterate 2 exact rfl))
      repeat (first | refine zc ?_ | refine zv ?_)
      (apply c_l; (iterate 2 exact rfl); (focus exact t2); (iterate 2 exact rfl))
      repeat (first | refine zc ?_ | refine zv ?_)
      refine hcl [] [(30000, 504)] f2 ?_
      repeat (first | refine zc ?_ | ((first | apply c_l | apply c_q | apply c_lr | apply c_qr); (iterate 2 exact rfl); (focus (first | exact q1 | exact d3)); (iterate 2 exact rfl)) | (apply v_c; (iterate 4 exact rfl); (focus (first | exact q1 | exact d3)); (iterate 2 exact rfl)) | refine zv ?_ | refine zg ?_)
      (refine awp_ret ?_; (repeat (first | refine then_r ?_ | refine block_r ?_ | refine loop_r ?_)); apply ret_ok (.inr rfl); (focus exact rfl))
      rfl
end Go.Proofs.YtampglcgipefnaaGreat
