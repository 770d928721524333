/- Drawn automata as memory of their own. Printed by gengy.py. No condition. -/
import Derived.Test.YtckpadnjldebaaaGreatOz
import Derived.Test.YtckpadnjldebaaaGreatGv
import Derived.Test.YtckpadnjldebaaaGreatGl
import Derived.Test.YtckpadnjldebaaaGreatFwZ
namespace Go.Proofs.YtckpadnjldebaaaGreat
open Go
attribute [local irreducible] awp awpL awpQL awpQ awpM pWalk Qt AC thenQ blockQ loopQ OpTo
set_option linter.unusedVariables false
set_option linter.unusedSimpArgs false
set_option maxHeartbeats 2000000
attribute [local irreducible] HC
theorem spec_l01DrawnO {code : List Int} {most : Int} {s : Src} {k : Nat} (hb : BytesOk code) (hm : 1 <= most /\ most <= 10) (h : SOk s k) (hk : k <= 999999000) :
    HC Tryz.prog 212 [.ref 10000 0, .d (.int .i64 most)] [(10000, srcB code s)] (.agg [.d (.int .i64 (dnN code most s).1), .own 30000])
      [(10000, srcB code (rwsK code (dnN code most s).1 (dnL code (dnN code most s).2).2 (dnL code (dnN code most s).2).1.toNat).2), (30000, .rows 29 2 1 (rws (rwsK code (dnN code most s).1 (dnL code (dnN code most s).2).2 (dnL code (dnN code most s).2).1.toNat).1) none)] := by
  have hP : ∀ (s : Src) (k : Nat) (n : Int), SOk s k -> k <= 999999990 -> n <= 1000 -> HC Tryz.prog 56 [.ref 10000 0, .d (.int .i64 n)] [(10000, srcB code s)] (.d (.int .i64 (pickV code n s))) [(10000, srcB code (pickS code n s))] := fun s k n a b c => spec_pick hb a b (by omega)
  have hQ : ∀ (s : Src) (k : Nat) (n : Int), SOk s k -> k <= 999999990 -> n <= 1000 -> HC Tryz.prog 53 [.ref 10000 0, .d (.int .i64 n)] [(10000, srcB code s)] (.d (.bool (decide (pickV code n s = 0)))) [(10000, srcB code (pickS code n s))] := fun s k n a b c => spec_one hb a b (by omega)
  have k1 := pick_ok (code := code) (n := most) h
  have k2 := pick_ok (code := code) (n := 3) k1
  have kN := dnN_ok (code := code) (most := most) h
  have hN := dnN_range (s := s) hb hm.1
  have hr0 := pick_range (s := s) (n := most) hb hm.1
  have hr1 := pick_range (s := pickS code 3 (pickS code most s)) (n := 3) hb (by omega)
  have hc1 := hP s k most h (by omega) (by omega)
  have hc2 := hQ _ _ 3 k1 (by omega) (by omega)
  have hc3 := hP _ _ 3 k2 (by omega) (by omega)
  have hNe : dnN code most s = if 1 + pickV code most s < 3 then (if pickV code 3 (pickS code most s) = 0 then (1 + pickV code most s, pickS code 3 (pickS code most s)) else (min most (3 + pickV code 3 (pickS code 3 (pickS code most s))), pickS code 3 (pickS code 3 (pickS code most s)))) else (1 + pickV code most s, pickS code most s) := rfl
  generalize dnN code most s = N at *
  unfold srcB at *
  refine hc_intro tabIs _ Tryz.func212 rfl rfl Tryz.ntmps212 rfl rfl rfl ?_ fun w0 ok0 XM XA anc he0 hX0 => ?_
  . exact likeIn_cons rfl rfl likeIn_nil
  repeat (first | refine zc ?_ | refine zv ?_)
  refine hcl [(10000, 10000)] [(10000, 10000)] hc1 ?_
  repeat (first | refine zcr ?_ | refine zv ?_)
  refine awp_cut2 [(0, .ref 10000 0), (4, .ref 4 0), (5, .d (.int .i64 N.1))] [(4, .box [.d (.int .i64 0), .d .nils]), (10000, .box [.d (u8s code), .d (.int .i64 N.2.pos), .d (.int .u64 N.2.sd)])] ?_ ?_
  . refine awp_region ?_
    by_cases c1 : 1 + pickV code most s < 3
    . rw [if_pos c1] at hNe
      by_cases c2 : pickV code 3 (pickS code most s) = 0
      . rw [if_pos c2] at hNe
        subst hNe
        repeat (first | refine zc ?_ | refine zv ?_ | refine zg ?_)
        refine hclG [(10000, 10000)] [(10000, 10000)] hc2 ?_
        repeat (first | refine zc ?_ | refine zv ?_ | refine zg ?_)
        exact ⟨by exact zs, rfl⟩
      . rw [if_neg c2] at hNe
        subst hNe
        repeat (first | refine zc ?_ | refine zv ?_ | refine zg ?_)
        refine hclG [(10000, 10000)] [(10000, 10000)] hc2 ?_
        repeat (first | refine zc ?_ | refine zv ?_ | refine zg ?_)
        refine hcl [(10000, 10000)] [(10000, 10000)] hc3 ?_
        repeat (first | refine zc ?_ | refine zk (e := by exact minL) (n := ?_) | refine zv ?_ | refine zg ?_)
        exact ⟨by exact zs, rfl⟩
    . rw [if_neg c1] at hNe
      subst hNe
      repeat (first | refine zc ?_ | refine zv ?_ | refine zg ?_)
      exact ⟨by exact zs, rfl⟩
  . have hL := dnL_range (s := N.2) hb
    have kL := dnL_ok (code := code) kN
    have l1 := pick_ok (code := code) (n := 3) kN
    have hq1 := hP _ _ 3 kN (by omega) (by omega)
    have hq2 := hQ _ _ 3 l1 (by omega) (by omega)
    have hrl := pick_range (s := N.2) (n := 3) hb (by omega)
    have hLe : dnL code N.2 = if 1 + pickV code 3 N.2 = 1 then (if pickV code 3 (pickS code 3 N.2) = 0 then 1 else 2, pickS code 3 (pickS code 3 N.2)) else (1 + pickV code 3 N.2, pickS code 3 N.2) := rfl
    generalize dnL code N.2 = L at *
    clear hc1 hc2 hc3 hNe
    repeat (first | refine zcr ?_ | refine zv ?_)
    refine awp_region ?_
    repeat (first | refine zc ?_ | refine zv ?_)
    refine hcl [(10000, 10000)] [(10000, 10000)] hq1 ?_
    repeat (first | refine zcr ?_ | refine zv ?_)
    refine awp_cut2 [(0, .ref 10000 0), (4, .ref 4 0), (5, .d (.int .i64 N.1)), (6, .d (.int .i64 L.1))] [(4, .box [.d (.int .i64 0), .d .nils]), (10000, .box [.d (u8s code), .d (.int .i64 L.2.pos), .d (.int .u64 L.2.sd)])] ?_ ?_
    . refine awp_region ?_
      by_cases c1 : 1 + pickV code 3 N.2 = 1
      . rw [if_pos c1] at hLe
        by_cases c2 : pickV code 3 (pickS code 3 N.2) = 0
        . rw [if_pos c2] at hLe
          subst hLe
          repeat (first | refine zc ?_ | refine zv ?_ | refine zg ?_)
          refine hclG [(10000, 10000)] [(10000, 10000)] hq2 ?_
          repeat (first | refine zc ?_ | refine zv ?_ | refine zg ?_)
          exact ⟨⟨rfl, rfl, rfl, congrArg (fun v : Int => SV.d (.int .i64 v)) c1, trivial⟩, rfl⟩
        . rw [if_neg c2] at hLe
          subst hLe
          repeat (first | refine zc ?_ | refine zv ?_ | refine zg ?_)
          refine hclG [(10000, 10000)] [(10000, 10000)] hq2 ?_
          repeat (first | refine zc ?_ | refine zv ?_ | refine zg ?_)
          exact ⟨by exact zs, rfl⟩
      . rw [if_neg c1] at hLe
        subst hLe
        repeat (first | refine zc ?_ | refine zv ?_ | refine zg ?_)
        exact ⟨by exact zs, rfl⟩
    . clear hLe hq1 hq2
      have hel := fun x => rwsK_el (s := L.2) hb hN.1 x
      have hok := fun x => rwsK_ok (code := code) kL (n := N.1) (by omega) x
      have hlen := fun x => rwsK_len (code := code) (n := N.1) (s := L.2) x
      repeat (first | refine zc ?_ | refine zv ?_)
      refine awp_nilCell 7 1 200 29 1 (by exact rfl) (by exact rfl) rfl rfl rfl ?_
      refine awp_toRows 200 2 1 rfl rfl rfl rfl ?_
      refine awp_perm _ rfl ?_
      refine awp_loop (fun x : Nat => (x : Int) <= L.1) (fun x => [(0, .ref 10000 0), (4, .ref 4 0), (5, .d (.int .i64 N.1)), (6, .d (.int .i64 L.1)), (7, .ref 7 0), (8, .d (.int .i64 x))])
        (fun x => [(4, .box [.d (.int .i64 0), .d .nils]), (7, .box [.d (.int .i64 N.1), .own 200]), (200, .rows 29 2 1 (rws (rwsK code N.1 L.2 x).1) none), (10000, .box [.d (u8s code), .d (.int .i64 (rwsK code N.1 L.2 x).2.pos), .d (.int .u64 (rwsK code N.1 L.2 x).2.sd)])]) (fun x => L.1.toNat - x) 0 (by omega) ?_ rfl ?_
      . exact zs
      . intro x hx
        have hrl1 := rws_length (rwsK code N.1 L.2 x).1
        have hlx := hlen x
        have hkx := hok x
        by_cases hlt : (x : Int) < L.1
        . have hst : rwsK code N.1 L.2 (x + 1) = ((rwsK code N.1 L.2 x).1 ++ [(rwK code N.1 (pickV code 5 (rwsK code N.1 L.2 x).2) (pickS code 5 (rwsK code N.1 L.2 x).2) N.1.toNat).1], (rwK code N.1 (pickV code 5 (rwsK code N.1 L.2 x).2) (pickS code 5 (rwsK code N.1 L.2 x).2) N.1.toNat).2) := rfl
          have hq := hP _ _ 5 hkx (by omega) (by omega)
          have hk5 := pick_ok (code := code) (n := 5) hkx
          generalize rwsK code N.1 L.2 x = r at *
          repeat (first | refine v_w (t := 46) ?_ | refine zc ?_ | refine u_w (t := 46) ?_ | refine zv ?_)
          refine hcl [(10000, 10000)] [(10000, 10000)] hq ?_
          repeat (first | refine zcr ?_ | refine zv ?_)
          have hko := fun i => rwK_ok (code := code) (n := N.1) (kind := pickV code 5 r.2) hk5 i
          have hkl := fun i => rwK_len (code := code) (n := N.1) (kind := pickV code 5 r.2) (s := pickS code 5 r.2) i
          generalize pickV code 5 r.2 = kd at *
          generalize pickS code 5 r.2 = s5 at *
          refine awp_sub (s' := [(0, .ref 10000 0), (4, .ref 4 0), (5, .d (.int .i64 N.1)), (6, .d (.int .i64 L.1)), (7, .ref 7 0), (8, .d (.int .i64 x)), (9, .own 46), (10, .d (.int .i64 kd))]) (by exact zs) ?_
          refine awp_permTo [(46, .arr 2 1 []), (4, .box [.d (.int .i64 0), .d .nils]), (7, .box [.d (.int .i64 N.1), .own 200]), (200, .rows 29 2 1 (rws r.1) none), (10000, .box [.d (u8s code), .d (.int .i64 s5.pos), .d (.int .u64 s5.sd)])] rfl ?_
          repeat (first | refine zc ?_ | refine zv ?_)
          refine awp_loop (fun i : Nat => (i : Int) <= N.1) (fun i => [(0, .ref 10000 0), (4, .ref 4 0), (5, .d (.int .i64 N.1)), (6, .d (.int .i64 L.1)), (7, .ref 7 0), (8, .d (.int .i64 x)), (9, .own 46), (10, .d (.int .i64 kd)), (11, .d (.int .i64 i))])
            (fun i => [(46, .arr 2 1 ((rwK code N.1 kd s5 i).1.map (.int .i64))), (4, .box [.d (.int .i64 0), .d .nils]), (7, .box [.d (.int .i64 N.1), .own 200]), (200, .rows 29 2 1 (rws r.1) none), (10000, .box [.d (u8s code), .d (.int .i64 (rwK code N.1 kd s5 i).2.pos), .d (.int .u64 (rwK code N.1 kd s5 i).2.sd)])]) (fun i => N.1.toNat - i) 0 (by omega) ?_ rfl ?_
          . exact zs
          . intro i hi
            have hko1 := hko i
            have hkl1 := hkl i
            have hm1 : ((rwK code N.1 kd s5 i).1.map (D.int .i64)).length = i := by simp [hkl1]
            by_cases hil : (i : Int) < N.1
            . have hsi : rwK code N.1 kd s5 (i + 1) = if kd = 0 then ((rwK code N.1 kd s5 i).1 ++ [((i : Int) + 1) % N.1], pickS code N.1 (rwK code N.1 kd s5 i).2) else if kd = 1 then ((rwK code N.1 kd s5 i).1 ++ [if pickV code 4 (pickS code N.1 (rwK code N.1 kd s5 i).2) = 0 then pickV code N.1 (rwK code N.1 kd s5 i).2 else (i : Int)], pickS code 4 (pickS code N.1 (rwK code N.1 kd s5 i).2))
                else if kd = 2 then ((rwK code N.1 kd s5 i).1 ++ [if pickV code 3 (pickS code N.1 (rwK code N.1 kd s5 i).2) = 0 then pickV code N.1 (rwK code N.1 kd s5 i).2 else N.1 - 1 - i], pickS code 3 (pickS code N.1 (rwK code N.1 kd s5 i).2)) else ((rwK code N.1 kd s5 i).1 ++ [pickV code N.1 (rwK code N.1 kd s5 i).2], pickS code N.1 (rwK code N.1 kd s5 i).2) := rfl
              have q1 := hP _ _ N.1 hko1 (by omega) (by omega)
              have hk2 := pick_ok (code := code) (n := N.1) hko1
              have q4 := hQ _ _ 4 hk2 (by omega) (by omega)
              have q3 := hQ _ _ 3 hk2 (by omega) (by omega)
              generalize rwK code N.1 kd s5 i = r2 at *
              by_cases d0 : kd = 0
              . rw [if_pos d0] at hsi
                repeat (first | refine zc ?_ | refine zv ?_)
                refine hcl [(10000, 10000)] [(10000, 10000)] q1 ?_
                repeat (first | refine zcr ?_ | refine zv ?_)
                refine awp_perm _ rfl ?_
                repeat (first | refine zc ?_ | refine zv ?_ | refine zg ?_)
                refine loop_n (i + 1) (by omega) ?_ ?_ (by omega)
                . exact zs
                . rw [hsi]; simp only [List.map_append]; (as_aux_lemma => kernel_rfl)
              . rw [if_neg d0] at hsi
                by_cases d1 : kd = 1
                . rw [if_pos d1] at hsi
                  by_cases d4 : pickV code 4 (pickS code N.1 r2.2) = 0
                  . rw [if_pos d4] at hsi
                    repeat (first | refine zc ?_ | refine zv ?_)
                    refine hcl [(10000, 10000)] [(10000, 10000)] q1 ?_
                    repeat (first | refine zc ?_ | refine zv ?_ | refine zg ?_)
                    refine hcl [(10000, 10000)] [(10000, 10000)] q4 ?_
                    repeat (first | refine zcr ?_ | refine zv ?_)
                    refine awp_perm _ rfl ?_
                    repeat (first | refine zc ?_ | refine zv ?_ | refine zg ?_)
                    refine loop_n (i + 1) (by omega) ?_ ?_ (by omega)
                    . exact zs
                    . rw [hsi]; simp only [List.map_append]; (as_aux_lemma => kernel_rfl)
                  . rw [if_neg d4] at hsi
                    repeat (first | refine zc ?_ | refine zv ?_)
                    refine hcl [(10000, 10000)] [(10000, 10000)] q1 ?_
                    repeat (first | refine zc ?_ | refine zv ?_ | refine zg ?_)
                    refine hcl [(10000, 10000)] [(10000, 10000)] q4 ?_
                    repeat (first | refine zcr ?_ | refine zv ?_)
                    refine awp_perm _ rfl ?_
                    repeat (first | refine zc ?_ | refine zv ?_ | refine zg ?_)
                    refine loop_n (i + 1) (by omega) ?_ ?_ (by omega)
                    . exact zs
                    . rw [hsi]; simp only [List.map_append]; (as_aux_lemma => kernel_rfl)
                . rw [if_neg d1] at hsi
                  by_cases d2 : kd = 2
                  . rw [if_pos d2] at hsi
                    by_cases d4 : pickV code 3 (pickS code N.1 r2.2) = 0
                    . rw [if_pos d4] at hsi
                      repeat (first | refine zc ?_ | refine zv ?_)
                      refine hcl [(10000, 10000)] [(10000, 10000)] q1 ?_
                      repeat (first | refine zc ?_ | refine zv ?_ | refine zg ?_)
                      refine hcl [(10000, 10000)] [(10000, 10000)] q3 ?_
                      repeat (first | refine zcr ?_ | refine zv ?_)
                      refine awp_perm _ rfl ?_
                      repeat (first | refine zc ?_ | refine zv ?_ | refine zg ?_)
                      refine loop_n (i + 1) (by omega) ?_ ?_ (by omega)
                      . exact zs
                      . rw [hsi]; simp only [List.map_append]; (as_aux_lemma => kernel_rfl)
                    . rw [if_neg d4] at hsi
                      repeat (first | refine zc ?_ | refine zv ?_)
                      refine hcl [(10000, 10000)] [(10000, 10000)] q1 ?_
                      repeat (first | refine zc ?_ | refine zv ?_ | refine zg ?_)
                      refine hcl [(10000, 10000)] [(10000, 10000)] q3 ?_
                      repeat (first | refine zcr ?_ | refine zv ?_)
                      refine awp_perm _ rfl ?_
                      repeat (first | refine zc ?_ | refine zv ?_ | refine zg ?_)
                      refine loop_n (i + 1) (by omega) ?_ ?_ (by omega)
                      . exact zs
                      . rw [hsi]; simp only [List.map_append]; (as_aux_lemma => kernel_rfl)
                  . rw [if_neg d2] at hsi
                    repeat (first | refine zc ?_ | refine zv ?_)
                    refine hcl [(10000, 10000)] [(10000, 10000)] q1 ?_
                    repeat (first | refine zcr ?_ | refine zv ?_)
                    refine awp_perm _ rfl ?_
                    repeat (first | refine zc ?_ | refine zv ?_ | refine zg ?_)
                    refine loop_n (i + 1) (by omega) ?_ ?_ (by omega)
                    . exact zs
                    . rw [hsi]; simp only [List.map_append]; (as_aux_lemma => kernel_rfl)
            . have hiN : i = N.1.toNat := by omega
              subst hiN
              have ra : rws (r.1 ++ [(rwK code N.1 kd s5 N.1.toNat).1]) = rws r.1 ++ [(rwK code N.1 kd s5 N.1.toNat).1.map (.int .i64)] := by simp [rws]
              generalize rwK code N.1 kd s5 N.1.toNat = r2 at *
              repeat (first | refine zcr ?_ | refine zv ?_)
              refine awp_region ?_
              repeat (first | refine zcr ?_ | refine zv ?_)
              refine awp_region ?_
              repeat (first | refine zcr ?_ | refine zv ?_)
              refine awp_perm _ rfl ?_
              repeat (first | refine zc ?_ | refine zv ?_)
              refine loop_n (x + 1) (by omega) ?_ ?_ (by omega)
              . exact zs
              . rw [hst]; simp only []; rw [ra]; (as_aux_lemma => kernel_rfl)
        . have hxL : x = L.1.toNat := by omega
          subst hxL
          repeat (first | refine zc ?_ | refine zv ?_)
          (refine zb ?_; refine u_rH [(10000, 10000), (200, 30000)] ?_ ?_)
          . rfl
          . rfl
theorem spec_l02SlowO {n : Int} (hn : 2 <= n /\ n <= 100) : HC Tryz.prog 83 [.d (.int .i64 n)] [] (.agg [.d (.int .i64 n), .own 30000]) [(30000, .rows 29 2 1 (rws [slT n n.toNat, slY n n.toNat]) none)] := by
  refine hc_intro tabIs _ Tryz.func83 rfl rfl Tryz.ntmps83 rfl rfl rfl ?_ fun w0 ok0 XM XA anc he0 hX0 => ?_
  . exact likeIn_nil
  repeat (first | refine v_w (t := 7) ?_ | refine v_w (t := 6) ?_ | refine zc ?_ | refine u_w (t := 6) ?_ | refine u_w (t := 7) ?_ | refine zv ?_)
  refine awp_loop (fun k : Nat => (k : Int) <= n) (fun k => [(0, .d (.int .i64 n)), (2, .ref 2 0), (3, .own 6), (4, .own 7), (5, .d (.int .i64 k))]) (fun k => [(7, .arr 2 1 ((slY n k).map (.int .i64))), (6, .arr 2 1 ((slT n k).map (.int .i64))), (2, .box [.d (.int .i64 0), .d .nils])]) (fun k => n.toNat - k) 0 (by omega) ?_ rfl ?_
  . exact zs
  . intro k hk
    have h1 : ((slY n k).map (D.int .i64)).length = k := by simp [slY]
    have h2 : ((slT n k).map (D.int .i64)).length = k := by simp [slT]
    have h3 : (slT n k).length = k := by simp [slT]
    have h4 : (slY n k).length = k := by simp [slY]
    have e1 := slT_succ (n := n) (k := k)
    have e2 := slY_succ (n := n) (k := k)
    by_cases hlt : (k : Int) < n
    . repeat (first | refine zc ?_ | refine zv ?_)
      refine loop_n (k + 1) (by omega) ?_ ?_ (by omega)
      . exact zs
      . rw [e1, e2]; simp only [List.map_append]; (as_aux_lemma => kernel_rfl)
    . have : k = n.toNat := by omega
      subst this
      repeat (first | refine zc ?_ | refine zv ?_)
      (apply lto; (focus (apply wo_litRow2; (iterate 16 exact rfl))))
      repeat (first | refine zc ?_ | refine zv ?_)
      (refine zb ?_; refine u_rH [(30, 30000)] ?_ ?_)
      . rfl
      . rfl
end Go.Proofs.YtckpadnjldebaaaGreat
namespace Go.Proofs.YtckpadnjldebaaaGreat
open Go
attribute [local irreducible] awp awpL awpQL awpQ awpM pWalk Qt AC thenQ blockQ loopQ OpTo
set_option linter.unusedVariables false
set_option linter.unusedSimpArgs false
set_option maxHeartbeats 2000000
attribute [local irreducible] HC HX
theorem spec_l01Tidied {l : List Int} (hl : l.length <= 1000) : AC Tryz.prog 290 [ints l] (ints (numL l)) := by
  have hle : (List.map (D.int .i64) l).length = l.length := by simp
  refine ac_intro tabIs _ Tryz.func290 rfl rfl Tryz.ntmps290 rfl rfl fun w0 ok0 he0 => ?_
  repeat (first | refine v_w (t := 8) ?_ | refine zc ?_ | refine u_w (t := 8) ?_ | refine zv ?_)
  refine awp_loop (fun i : Nat => i <= l.length) (fun i => [(0, .d (ints l)), (3, .own 8), (4, .d (.int .i64 (seF [] (l.take i)).length)), (5, .d (.int .i64 i))]) (fun i => [(8, .arr 2 1 ((nuF [] (l.take i)).map (.int .i64)))]) (fun i => l.length - i) 0 (by omega) ?_ rfl ?_
  . exact zs
  . intro i hi
    have hnl : (List.map (D.int .i64) (nuF [] (l.take i))).length = i := by rw [nuF_map]; simp; omega
    have hol : (nuF [] (l.take i)).length = i := by rw [nuF_map]; simp; omega
    have hSl : (seF [] (l.take i)).length <= i := by
      have := sub_len (A := l.take i) (seF_nd (l.take i) List.nodup_nil) fun x hx => by
        rcases (seF_mem _ _ _).1 hx with h | h
        . cases h
        . exact h
      rw [List.length_take] at this
      omega
    by_cases hlt : i < l.length
    . have hx := el_int hlt
      have ht := List.take_succ_eq_append_getElem hlt
      have e1 := nuF_snoc (l.take i) [] l[i]
      have e2 := seF_snoc (l.take i) [] l[i]
      rw [<- ht] at e1 e2
      rw [e2] at e1
      have hS : ∀ c, c ∈ seF [] (l.take i) ↔ c ∈ l.take i := fun c => by rw [seF_mem]; simp
      have hO : ∀ k (hk : k < i) (hk2 : k < l.length), (List.map (D.int .i64) (nuF [] (l.take i)))[(k : Int).toNat]? = some (.int .i64 (((seF [] (l.take i)).idxOf l[k] : Nat) : Int)) := fun k hk hk2 => by
        rw [nuF_map, Int.toNat_natCast, List.getElem?_map, List.getElem?_map, List.getElem?_take, if_pos hk, List.getElem?_eq_getElem hk2]
        rfl
      generalize seF [] (l.take i) = S at *
      generalize nuF [] (l.take i) = O at *
      generalize hc : l[i] = c at *
      have hidx : ((S.idxOf c : Nat) : Int) <= S.length := by have := List.idxOf_le_length (l := S) (a := c); omega
      repeat (first | refine zc ?_ | refine zv ?_)
      refine awp_loop (fun k : Nat => k <= i) (fun k => [(0, .d (ints l)), (3, .own 8), (4, .d (.int .i64 S.length)), (5, .d (.int .i64 i)), (6, .d (.int .i64 (if c ∈ l.take k then ((S.idxOf c : Nat) : Int) else -1))), (7, .d (.int .i64 k))]) (fun k => [(8, .arr 2 1 (O.map (.int .i64)))]) (fun k => i - k) 0 (by omega) ?_ rfl ?_
      . exact zs
      . intro k hk
        by_cases hki : k < i
        . have hxk := el_int (ns := l) (k := k) (by omega)
          have htk := List.take_succ_eq_append_getElem (l := l) (i := k) (by omega)
          have hOk := hO k hki (by omega)
          generalize l[k]'(by omega) = d at *
          by_cases hd : d = c
          . subst hd
            have hin : (if d ∈ l.take (k + 1) then ((S.idxOf d : Nat) : Int) else -1) = ((S.idxOf d : Nat) : Int) := if_pos (by rw [htk]; exact List.mem_append_right _ (List.mem_singleton.2 rfl))
            generalize (if d ∈ l.take k then ((S.idxOf d : Nat) : Int) else -1) = o at *
            repeat (first | refine zc ?_ | ((first | apply x_l | apply x_q | apply x_lr | apply x_qr); (focus (first | (apply wa_loadElt; (iterate 6 (focus (first | exact rfl | (first | assumption | omega | (simp; omega) | (simp; done) | rfl))))))); exact rfl) | (apply v_x; (iterate 2 exact rfl); (focus (intro ok0 nw hle; (first | (apply wa_loadElt; (iterate 6 (focus (first | exact rfl | (first | assumption | omega | (simp; omega) | (simp; done) | rfl)))))))); (iterate 2 exact rfl)) | refine zv ?_)
            refine loop_n (k + 1) (by omega) ?_ rfl (by omega)
            rw [hin]
            exact zs
          . have hin : (if c ∈ l.take (k + 1) then ((S.idxOf c : Nat) : Int) else -1) = (if c ∈ l.take k then ((S.idxOf c : Nat) : Int) else -1) := by
              have : c ∈ l.take (k + 1) ↔ c ∈ l.take k := by
                rw [htk, List.mem_append, List.mem_singleton]
                exact ⟨fun h => h.resolve_right fun e => hd e.symm, .inl⟩
              simp only [this]
            generalize (if c ∈ l.take k then ((S.idxOf c : Nat) : Int) else -1) = o at *
            repeat (first | refine zc ?_ | refine zv ?_)
            refine loop_n (k + 1) (by omega) ?_ rfl (by omega)
            rw [hin]
            exact zs
        . have hke : k = i := by omega
          subst hke
          by_cases hm : c ∈ S
          . rw [if_pos hm] at e1 e2
            rw [if_pos ((hS c).1 hm)]
            repeat (first | refine zc ?_ | refine zv ?_)
            refine loop_n (k + 1) (by omega) ?_ ?_ (by omega)
            . rw [e2]; exact zs
            . rw [e1, List.map_append]; rfl
          . rw [if_neg hm] at e1 e2
            rw [if_neg (fun h => hm ((hS c).2 h))]
            have hi2 : (S ++ [c]).idxOf c = S.length := by rw [List.idxOf_append, if_neg hm]; simp
            have hl2 : ((seF [] (l.take (k + 1))).length : Int) = S.length + 1 := by rw [e2]; simp
            rw [hi2] at e1
            repeat (first | refine zc ?_ | refine zv ?_)
            refine loop_n (k + 1) (by omega) ?_ ?_ (by omega)
            . rw [hl2]; exact zs
            . rw [e1, List.map_append]; rfl
    . have : i = l.length := by omega
      subst this
      rw [List.take_length]
      refine awp_freeze 8 rfl rfl ?_
      repeat (first | refine zc ?_ | refine zv ?_)
      refine zt ?_
      rfl
end Go.Proofs.YtckpadnjldebaaaGreat
namespace Go.Proofs.YtckpadnjldebaaaGreat
open Go
attribute [local irreducible] awp awpL awpQL awpQ awpM pWalk Qt AC thenQ blockQ loopQ OpTo
set_option linter.unusedVariables false
set_option linter.unusedSimpArgs false
set_option maxHeartbeats 2000000
attribute [local irreducible] HC HX
structure AOk (n : Int) (nx : List (List Int)) (m : Int) : Prop where
  n1 : 1 <= n /\ n <= m
  l1 : 1 <= nx.length /\ nx.length <= 3
  t : Tbl n n nx
theorem tbl_snoc {s hi : Int} {nx : List (List Int)} {r : List Int} (h : Tbl s hi nx) (hr : (r.length : Int) = s /\ ∀ n ∈ r, 0 <= n /\ n < hi) : Tbl s hi (nx ++ [r]) := fun ns hn => by
  rcases List.mem_append.1 hn with h1 | h1
  . exact h ns h1
  . rw [List.mem_singleton.1 h1]; exact hr
theorem rws_snoc1 (nx : List (List Int)) (r : List Int) : rws (nx ++ [r]) = rws nx ++ [r.map (.int .i64)] := by simp [rws]
theorem spec_l01AlikeX {code : List Int} {s : Src} {k : Nat} (hb : BytesOk code) (h : SOk s k) (hk : k <= 999990000) :
    HX Tryz.prog 213 [.ref 10000 0] [(10000, srcB code s)] (ι := (Int × List (List Int)) × Src × List Int) (fun _ i => AOk i.1.1 i.1.2 7 /\ SOk i.2.1 (k + 1000)) (fun i => .tup [.agg [.d (.int .i64 i.1.1), .own 30000], .d (ints i.2.2)]) (fun i => [(10000, srcB code i.2.1), (30000, .rows 29 2 1 (rws i.1.2) none)]) := by
  have hP : ∀ (s : Src) (k : Nat) (n : Int), SOk s k -> k <= 999999990 -> n <= 1000 -> HC Tryz.prog 56 [.ref 10000 0, .d (.int .i64 n)] [(10000, srcB code s)] (.d (.int .i64 (pickV code n s))) [(10000, srcB code (pickS code n s))] := fun s k n a b c => spec_pick hb a b (by omega)
  have hN := dnN_range (s := s) (most := 3) hb (by omega)
  have hL := dnL_range (s := (dnN code 3 s).2) hb
  have h1 := rwsK_ok (code := code) (dnL_ok (code := code) (dnN_ok (code := code) (most := 3) h)) (n := (dnN code 3 s).1) (by omega) (dnL code (dnN code 3 s).2).1.toNat
  have hc1 := spec_l01Drawn (most := 3) hb (by omega) h (by omega)
  have hT := rwsK_el (s := (dnL code (dnN code 3 s).2).2) hb hN.1 (dnL code (dnN code 3 s).2).1.toNat
  have hTl := rwsK_len (code := code) (n := (dnN code 3 s).1) (s := (dnL code (dnN code 3 s).2).2) (dnL code (dnN code 3 s).2).1.toNat
  rw [rws_dat] at hc1
  generalize rwsK code (dnN code 3 s).1 (dnL code (dnN code 3 s).2).2 (dnL code (dnN code 3 s).2).1.toNat = R at *
  generalize (dnN code 3 s).1 = N at *
  have hLN : 1 <= (dnL code (dnN code 3 s).2).1.toNat /\ (dnL code (dnN code 3 s).2).1.toNat <= 3 := by omega
  generalize (dnL code (dnN code 3 s).2).1.toNat = LN at *
  obtain ⟨qx, s1⟩ := R
  dsimp only at h1 hc1 hT hTl
  have hql : (qx.map ints).length = qx.length := by simp
  have h1 : SOk s1 (k + 140) := h1.mono (by omega)
  have c4 := hP _ _ 4 h1 (by omega) (by omega)
  have h2 := pick_ok (code := code) (n := 4) h1
  have r4 := pick_range (s := s1) (n := 4) hb (by omega)
  unfold srcB at *
  refine hx_intro tabIs _ Tryz.func213 rfl rfl Tryz.ntmps213 rfl rfl rfl ?_ fun w0 ok0 XM XA anc he0 hX0 => ?_
  . exact fun _ => likeIn_cons rfl rfl likeIn_nil
  repeat (first | refine zc ?_ | refine zv ?_)
  refine hcl [(10000, 10000)] [(10000, 10000)] hc1 ?_
  repeat (first | refine zcn ?_ | refine zv ?_)
  refine u_m [(3, [10000])] (.tk [10000] [0, 1] (.tk [] [2, 3, 4, 5] .done)) ?_
  repeat (first | refine zc ?_ | refine zv ?_)
  refine hclM [(10000, 10000)] [(10000, 10000)] c4 ?_
  repeat (first | refine zcr ?_ | refine zv ?_)
  generalize hn : N + pickV code 4 s1 = n at *
  generalize pickS code 4 s1 = s2 at *
  have hn6 : N <= n /\ n <= 6 := by omega
  have h2 : SOk s2 (k + 142) := h2.mono (by omega)
  clear c4 r4 hc1 h1 hn hL
  have hsl : ∀ (i : Nat), i < qx.length -> 0 <= (i : Int) /\ (i : Int) < qx.length := fun i hi => by omega
  refine awp_sub (s' := [(0, .ref 10000 0), (2, .ref 2 0), (3, .d .nils), (4, .ref 4 0), (5, .d (.int .i64 n))]) (by exact zs) ?_
  refine awp_permTo [(2, .box [.d (.int .i64 0), .d .nils]), (4, .box [.d (.int .i64 N), .d (rows qx)]), (10000, .box [.d (u8s code), .d (.int .i64 s2.pos), .d (.int .u64 s2.sd)])] rfl ?_
  refine awp_region ?_
  repeat (first | refine v_w (t := 23) ?_ | refine zc ?_ | refine u_w (t := 23) ?_ | refine zv ?_)
  refine awp_permTo [(2, .box [.d (.int .i64 0), .d .nils]), (4, .box [.d (.int .i64 N), .d (rows qx)]), (23, .arr 2 1 []), (10000, .box [.d (u8s code), .d (.int .i64 s2.pos), .d (.int .u64 s2.sd)])] rfl ?_
  refine awp_loop (fun q : Nat × List Int × Src => (q.1 : Int) <= n /\ q.2.1.length = q.1 /\ (∀ m ∈ q.2.1, 0 <= m /\ m < N) /\ SOk q.2.2 (k + 142 + 2 * q.1)) (fun q => [(0, .ref 10000 0), (2, .ref 2 0), (3, .d .nils), (4, .ref 4 0), (5, .d (.int .i64 n)), (6, .own 23), (7, .d (.int .i64 q.1))])
    (fun q => [(2, .box [.d (.int .i64 0), .d .nils]), (4, .box [.d (.int .i64 N), .d (rows qx)]), (23, .arr 2 1 (q.2.1.map (.int .i64))), (10000, .box [.d (u8s code), .d (.int .i64 q.2.2.pos), .d (.int .u64 q.2.2.sd)])]) (fun q => n.toNat - q.1) (0, [], s2) ⟨by show (0 : Int) <= n; omega, rfl, (fun m hm => by cases hm), h2⟩ ?_ rfl ?_
  . exact zs
  . rintro ⟨i, ms, s3⟩ ⟨hi, hml, hmr, h3⟩
    dsimp only at hi hml hmr h3 ⊢
    have hmm : (List.map (D.int .i64) ms).length = i := by simp [hml]
    by_cases hin : (i : Int) < n
    . by_cases hiN : (i : Int) < N
      . repeat (first | refine zcr ?_ | refine zv ?_)
        refine awp_region ?_
        repeat (first | refine zcr ?_ | refine zv ?_)
        refine awp_region ?_
        repeat (first | refine zcr ?_ | refine zv ?_)
        refine awp_region ?_
        repeat (first | refine zcr ?_ | refine zv ?_)
        refine awp_perm _ rfl ?_
        repeat (first | refine zc ?_ | refine zv ?_)
        refine loop_n (i + 1, ms ++ [(i : Int)], s3) ⟨by show ((i + 1 : Nat) : Int) <= n; omega, by simp [hml], fun m hm => ?_, h3.mono (by dsimp only; omega)⟩ ?_ ?_ (by dsimp only; omega)
        . rcases List.mem_append.1 hm with h | h
          . exact hmr m h
          . rw [List.mem_singleton.1 h]; omega
        . exact zs
        . rw [List.map_append]; rfl
      . have c5 := hP _ _ N h3 (by omega) (by omega)
        have r5 := pick_range (s := s3) (n := N) hb hN.1
        have h4 := pick_ok (code := code) (n := N) h3
        generalize pickV code N s3 = y at *
        generalize pickS code N s3 = s4 at *
        repeat (first | refine zc ?_ | refine zv ?_)
        refine hcl [(10000, 10000)] [(10000, 10000)] c5 ?_
        repeat (first | refine zcr ?_ | refine zv ?_)
        refine awp_perm _ rfl ?_
        repeat (first | refine zc ?_ | refine zv ?_)
        refine loop_n (i + 1, ms ++ [y], s4) ⟨by show ((i + 1 : Nat) : Int) <= n; omega, by simp [hml], fun m hm => ?_, h4.mono (by dsimp only; omega)⟩ ?_ ?_ (by dsimp only; omega)
        . rcases List.mem_append.1 hm with h | h
          . exact hmr m h
          . rw [List.mem_singleton.1 h]; omega
        . exact zs
        . rw [List.map_append]; rfl
    . have hie : i = n.toNat := by omega
      subst hie
      clear h2
      have h3 : SOk s3 (k + 160) := h3.mono (by omega)
      repeat (first | refine zc ?_ | refine zv ?_)
      refine awp_nilCell 8 1 200 29 1 (by exact rfl) (by exact rfl) rfl rfl rfl ?_
      refine awp_toRows 200 2 1 rfl rfl rfl rfl ?_
      refine awp_sub (s' := [(0, .ref 10000 0), (2, .ref 2 0), (3, .d .nils), (4, .ref 4 0), (5, .d (.int .i64 n)), (6, .own 23), (8, .ref 8 0), (9, .d (.int .i64 0))]) (by exact zs) ?_
      refine awp_permTo [(2, .box [.d (.int .i64 0), .d .nils]), (4, .box [.d (.int .i64 N), .d (rows qx)]), (8, .box [.d (.int .i64 n), .own 200]), (23, .arr 2 1 (ms.map (.int .i64))), (200, .rows 29 2 1 (rws []) none), (10000, .box [.d (u8s code), .d (.int .i64 s3.pos), .d (.int .u64 s3.sd)])] rfl ?_
      refine awp_loop (fun q : Nat × List (List Int) × Src => q.1 <= qx.length /\ q.2.1.length = q.1 /\ Tbl n n q.2.1 /\ SOk q.2.2 (k + 160 + 60 * q.1)) (fun q => [(0, .ref 10000 0), (2, .ref 2 0), (3, .d .nils), (4, .ref 4 0), (5, .d (.int .i64 n)), (6, .own 23), (8, .ref 8 0), (9, .d (.int .i64 q.1))])
        (fun q => [(2, .box [.d (.int .i64 0), .d .nils]), (4, .box [.d (.int .i64 N), .d (rows qx)]), (8, .box [.d (.int .i64 n), .own 200]), (23, .arr 2 1 (ms.map (.int .i64))), (200, .rows 29 2 1 (rws q.2.1) none), (10000, .box [.d (u8s code), .d (.int .i64 q.2.2.pos), .d (.int .u64 q.2.2.sd)])]) (fun q => qx.length - q.1) (0, [], s3) ⟨by show 0 <= qx.length; omega, rfl, (fun m hm => by cases hm), h3⟩ ?_ rfl ?_
      . exact zs
      . rintro ⟨x, rs, s4⟩ ⟨hx, hrl, hrt, h4⟩
        dsimp only at hx hrl hrt h4 ⊢
        have hrw := rws_length rs
        by_cases hxl : x < qx.length
        . have hlx := hsl x hxl
          have r1 := el_row2 hlx
          have r2 := tbl_row hT hlx
          have r3 := fun m hm => tbl_at hT hlx (q := m) hm
          have r5 := fun (m : Int) (hm : 0 <= m /\ m < N) => el_int2 (ns := row qx x) (q := m) (by omega)
          have hat : ∀ m : Int, (row qx x).getD m.toNat 0 = at2 qx x m := fun m => rfl
          generalize hRW : rws rs = RW at *
          repeat (first | refine v_w (t := 53) ?_ | refine zc ?_ | refine u_w (t := 53) ?_ | refine zv ?_)
          refine awp_permTo [(2, .box [.d (.int .i64 0), .d .nils]), (4, .box [.d (.int .i64 N), .d (rows qx)]), (8, .box [.d (.int .i64 n), .own 200]), (23, .arr 2 1 (ms.map (.int .i64))), (53, .arr 2 1 []), (200, .rows 29 2 1 RW none), (10000, .box [.d (u8s code), .d (.int .i64 s4.pos), .d (.int .u64 s4.sd)])] rfl ?_
          refine awp_loop (fun q : Nat × List Int × Src => q.1 <= n.toNat /\ q.2.1.length = q.1 /\ (∀ v ∈ q.2.1, 0 <= v /\ v < n) /\ SOk q.2.2 (k + 160 + 60 * x + 8 * q.1)) (fun q => [(0, .ref 10000 0), (2, .ref 2 0), (3, .d .nils), (4, .ref 4 0), (5, .d (.int .i64 n)), (6, .own 23), (8, .ref 8 0), (9, .d (.int .i64 x)), (10, .own 53), (11, .d (.int .i64 q.1))])
            (fun q => [(2, .box [.d (.int .i64 0), .d .nils]), (4, .box [.d (.int .i64 N), .d (rows qx)]), (8, .box [.d (.int .i64 n), .own 200]), (23, .arr 2 1 (ms.map (.int .i64))), (53, .arr 2 1 (q.2.1.map (.int .i64))), (200, .rows 29 2 1 RW none), (10000, .box [.d (u8s code), .d (.int .i64 q.2.2.pos), .d (.int .u64 q.2.2.sd)])]) (fun q => n.toNat - q.1) (0, [], s4) ⟨by show 0 <= n.toNat; omega, rfl, (fun m hm => by cases hm), h4⟩ ?_ rfl ?_
          . exact zs
          . rintro ⟨j, rw1, s5⟩ ⟨hj, hrwl, hrv, h5⟩
            dsimp only at hj hrwl hrv h5 ⊢
            have hrm : (List.map (D.int .i64) rw1).length = j := by simp [hrwl]
            by_cases hjn : j < n.toNat
            . have hmj := hmr _ (List.getElem_mem (show j < ms.length by omega))
              have hmg := el_int (ns := ms) (k := j) (by omega)
              generalize ms[j]'(by omega) = m at *
              have r6 := r5 m hmj
              have r7 := r3 m hmj
              rw [hat] at r6
              generalize at2 qx x m = wn at *
              repeat (first | refine zc ?_ | ((first | apply x_l | apply x_q | apply x_lr | apply x_qr); (focus (first | (apply wa_loadElt; (iterate 6 (focus (first | exact rfl | (first | assumption | omega | (simp; omega) | (simp; done) | rfl))))))); exact rfl) | (apply v_x; (iterate 2 exact rfl); (focus (intro ok0 nw hle; (first | (apply wa_loadElt; (iterate 6 (focus (first | exact rfl | (first | assumption | omega | (simp; omega) | (simp; done) | rfl)))))))); (iterate 2 exact rfl)) | refine zv ?_)
              refine awp_loop (fun q : Nat × Int × Src => q.1 <= 4 /\ (0 <= q.2.1 /\ q.2.1 < n) /\ SOk q.2.2 (k + 160 + 60 * x + 8 * j + 2 * q.1)) (fun q => [(0, .ref 10000 0), (2, .ref 2 0), (3, .d .nils), (4, .ref 4 0), (5, .d (.int .i64 n)), (6, .own 23), (8, .ref 8 0), (9, .d (.int .i64 x)), (10, .own 53), (11, .d (.int .i64 j)), (12, .d (.int .i64 wn)), (13, .d (.int .i64 q.2.1)), (14, .d (.int .i64 q.1))])
                (fun q => [(2, .box [.d (.int .i64 0), .d .nils]), (4, .box [.d (.int .i64 N), .d (rows qx)]), (8, .box [.d (.int .i64 n), .own 200]), (23, .arr 2 1 (ms.map (.int .i64))), (53, .arr 2 1 (rw1.map (.int .i64))), (200, .rows 29 2 1 RW none), (10000, .box [.d (u8s code), .d (.int .i64 q.2.2.pos), .d (.int .u64 q.2.2.sd)])]) (fun q => 4 - q.1) (0, wn, s5) ⟨by show 0 <= 4; omega, by dsimp only; omega, h5⟩ ?_ rfl ?_
              . exact zs
              . rintro ⟨tr, to_, s6⟩ ⟨htr, hto, h6⟩
                dsimp only at htr hto h6 ⊢
                by_cases ht4 : tr < 4
                . have c7 := hP _ _ n h6 (by omega) (by omega)
                  have r8 := pick_range (s := s6) (n := n) hb (by omega)
                  have h7 := pick_ok (code := code) (n := n) h6
                  generalize pickV code n s6 = y at *
                  generalize pickS code n s6 = s7 at *
                  have hmy := el_int (ns := ms) (k := y.toNat) (by omega)
                  rw [show ((y.toNat : Nat) : Int) = y by omega] at hmy
                  generalize ms[y.toNat]'(by omega) = my at *
                  have hyl : y < (List.map (D.int .i64) ms).length := by omega
                  by_cases hmw : my = wn
                  . repeat (first | refine zc ?_ | refine zv ?_)
                    refine hcl [(10000, 10000)] [(10000, 10000)] c7 ?_
                    repeat (first | refine zcr ?_ | refine zv ?_)
                    refine awp_perm _ rfl ?_
                    repeat (first | refine zc ?_ | ((first | apply x_l | apply x_q | apply x_lr | apply x_qr); (focus (first | (apply wa_loadElt; (iterate 6 (focus (first | exact rfl | (first | assumption | omega | (simp; omega) | (simp; done) | rfl))))))); exact rfl) | (apply v_x; (iterate 2 exact rfl); (focus (intro ok0 nw hle; (first | (apply wa_loadElt; (iterate 6 (focus (first | exact rfl | (first | assumption | omega | (simp; omega) | (simp; done) | rfl)))))))); (iterate 2 exact rfl)) | refine zv ?_)
                    refine loop_n (tr + 1, y, s7) ⟨by dsimp only; omega, by dsimp only; omega, h7.mono (by dsimp only; omega)⟩ ?_ rfl (by dsimp only; omega)
                    exact zs
                  . repeat (first | refine zc ?_ | refine zv ?_)
                    refine hcl [(10000, 10000)] [(10000, 10000)] c7 ?_
                    repeat (first | refine zcr ?_ | refine zv ?_)
                    refine awp_perm _ rfl ?_
                    repeat (first | refine zc ?_ | ((first | apply x_l | apply x_q | apply x_lr | apply x_qr); (focus (first | (apply wa_loadElt; (iterate 6 (focus (first | exact rfl | (first | assumption | omega | (simp; omega) | (simp; done) | rfl))))))); exact rfl) | (apply v_x; (iterate 2 exact rfl); (focus (intro ok0 nw hle; (first | (apply wa_loadElt; (iterate 6 (focus (first | exact rfl | (first | assumption | omega | (simp; omega) | (simp; done) | rfl)))))))); (iterate 2 exact rfl)) | refine zv ?_)
                    refine loop_n (tr + 1, to_, s7) ⟨by dsimp only; omega, by dsimp only; omega, h7.mono (by dsimp only; omega)⟩ ?_ rfl (by dsimp only; omega)
                    exact zs
                . have h6 : SOk s6 (k + 160 + 60 * x + 8 * (j + 1)) := h6.mono (by omega)
                  repeat (first | refine zcr ?_ | refine zv ?_)
                  refine awp_region ?_
                  repeat (first | refine zcr ?_ | refine zv ?_)
                  refine awp_region ?_
                  repeat (first | refine zcr ?_ | refine zv ?_)
                  refine awp_perm _ rfl ?_
                  repeat (first | refine zc ?_ | refine zv ?_)
                  refine loop_n (j + 1, rw1 ++ [to_], s6) ⟨by dsimp only; omega, by simp [hrwl], fun v hv => ?_, h6⟩ ?_ ?_ (by dsimp only; omega)
                  . rcases List.mem_append.1 hv with h | h
                    . exact hrv v h
                    . rw [List.mem_singleton.1 h]; exact hto
                  . exact zs
                  . rw [List.map_append]; rfl
            . have hje : j = n.toNat := by omega
              subst hje
              have h5 : SOk s5 (k + 160 + 60 * (x + 1)) := h5.mono (by omega)
              have hs1 := rws_snoc1 rs rw1
              rw [hRW] at hs1
              repeat (first | refine zcr ?_ | refine zv ?_)
              refine awp_region ?_
              repeat (first | refine zcr ?_ | refine zv ?_)
              refine awp_region ?_
              repeat (first | refine zcr ?_ | refine zv ?_)
              refine awp_perm _ rfl ?_
              repeat (first | refine zc ?_ | refine zv ?_)
              refine loop_n (x + 1, rs ++ [rw1], s5) ⟨by dsimp only; omega, by simp [hrl], tbl_snoc hrt ⟨by omega, hrv⟩, h5⟩ ?_ ?_ (by dsimp only; omega)
              . exact zs
              . show [_, _, _, _, _, _] = _
                rw [hs1]; rfl
        . have hxe : x = qx.length := by omega
          have h4 : SOk s4 (k + 1000) := h4.mono (by omega)
          have eT := spec_l01Tidied (l := ms) (by omega)
          refine awp_freeze 23 rfl rfl ?_
          repeat (first | refine zcn ?_ | refine zv ?_)
          refine u_m [(3, [2])] (.tk [] [0, 1, 2, 3, 4] .done) ?_
          repeat (first | refine zc ?_ | refine zk (e := by exact eT) (n := ?_) | refine zv ?_)
          (refine awp_ret ?_; (repeat (first | refine then_r ?_ | refine block_r ?_ | refine loop_r ?_)); refine ⟨((n, rs), s4, numL ms), ⟨⟨by dsimp only; omega, by dsimp only; omega, hrt⟩, h4⟩, u_rH [(10000, 10000), (200, 30000)] ?_ ?_⟩)
          . rfl
          . rfl
end Go.Proofs.YtckpadnjldebaaaGreat
