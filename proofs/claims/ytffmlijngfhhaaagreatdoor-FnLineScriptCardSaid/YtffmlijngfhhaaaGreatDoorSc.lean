/- Scripts: what they answer, in the program and in the reference. Condition: the variables of strconv are laid. -/
import Derived.Test.YtffmlijngfhhaaaGreatDoorAn
import Derived.Test.YtffmlijngfhhaaaGreatDoorRx
import Derived.Test.YtffmlijngfhhaaaGreatDoorSp
namespace Go.Proofs.YtffmlijngfhhaaaGreatDoor
open Go
attribute [local irreducible] awp awpL awpQL awpQ awpM pWalk Qt AC thenQ blockQ loopQ OpTo
set_option linter.unusedVariables false
set_option linter.unusedSimpArgs false
set_option maxHeartbeats 2000000
attribute [local irreducible] HC
open Go.Lib (itoa)
def scL (l : List UInt8) : List (List UInt8) := if (lns l).getLast (lns_ne l) = [] then (lns l).dropLast else lns l
def scN (s : Int) (nx : List (List Int)) (lp : List Int) : Ln -> List (List UInt8) -> Ln
  | n, [] => n
  | n, l :: r => scN s nx lp (ansF s nx lp n l).1 r
def scT (s : Int) (nx : List (List Int)) (lp : List Int) : Ln -> List (List UInt8) -> List UInt8
  | _, [] => []
  | n, l :: r => ((ansF s nx lp n l).2 ++ [10]) ++ scT s nx lp (ansF s nx lp n l).1 r
theorem scN_snoc {s : Int} {nx : List (List Int)} {lp : List Int} : ∀ (ls : List (List UInt8)) (l : List UInt8) (n : Ln), scN s nx lp n (ls ++ [l]) = (ansF s nx lp (scN s nx lp n ls) l).1
  | [], _, _ => rfl
  | a :: ls, l, n => by simp only [List.cons_append, scN]; exact scN_snoc ls l _
theorem scT_snoc {s : Int} {nx : List (List Int)} {lp : List Int} : ∀ (ls : List (List UInt8)) (l : List UInt8) (n : Ln), scT s nx lp n (ls ++ [l]) = scT s nx lp n ls ++ ((ansF s nx lp (scN s nx lp n ls) l).2 ++ [10])
  | [], l, n => by simp [scT, scN]
  | a :: ls, l, n => by
    simp only [List.cons_append, scT, scN]
    rw [scT_snoc ls l]
    simp [List.append_assoc]
theorem scN_ok {s : Int} {nx : List (List Int)} {lp : List Int} (hv : litOk s nx lp = true) : ∀ (ls : List (List UInt8)) {k : Nat} {n : Ln}, LnOk s nx k n -> LnOk s nx (k + ls.length) (scN s nx lp n ls)
  | [], _, _, h => h
  | l :: ls, k, n, h => by
    have := scN_ok hv ls (ansF_ok (l := l) hv h)
    rw [List.length_cons, show k + (ls.length + 1) = k + 1 + ls.length by omega]
    exact this
theorem scT_len {s : Int} {nx : List (List Int)} {lp : List Int} (hv : litOk s nx lp = true) : ∀ (ls : List (List UInt8)) {k : Nat} {n : Ln}, LnOk s nx k n -> (scT s nx lp n ls).length <= 1001 * ls.length
  | [], _, _, _ => by simp [scT]
  | l :: ls, k, n, h => by
    have h1 := scT_len hv ls (ansF_ok (l := l) hv h)
    have h2 := ansF_len (l := l) hv h
    simp only [scT, List.length_append, List.length_cons, List.length_nil]
    omega
theorem lns_memLe {l p : List UInt8} (h : p ∈ lns l) : p.length <= l.length := by
  have hs : lns l = (lns l).dropLast ++ [(lns l).getLast (lns_ne l)] := (List.dropLast_concat_getLast (lns_ne l)).symm
  have h1 := congrArg List.length (lns_join l _ _ hs)
  rw [List.length_append] at h1
  rw [hs] at h
  rcases List.mem_append.1 h with h | h
  . have : ∀ (L : List (List UInt8)), p ∈ L -> p.length <= (L.flatMap fun p => p ++ [10]).length := by
      intro L
      induction L with
      | nil => intro h; cases h
      | cons a L ih =>
        intro h
        rw [List.flatMap_cons, List.length_append, List.length_append]
        rcases List.mem_cons.1 h with rfl | h
        . omega
        . have := ih h; omega
    have := this _ h
    omega
  . simp at h
    rw [h]; omega
theorem scL_mem {l p : List UInt8} (h : p ∈ scL l) : p.length <= l.length := by
  unfold scL at h
  split at h
  . exact lns_memLe ((List.dropLast_sublist _).subset h)
  . exact lns_memLe h
def scC (s st : Int) (nx : List (List Int)) (lp : List Int) (l : List UInt8) : Int := if litOk s nx lp = true then if 0 <= st /\ st < s /\ l.length <= 20000 /\ (scL l).length <= 120 then 0 else 2 else 1
def scO (s st : Int) (nx : List (List Int)) (lp : List Int) (l : List UInt8) : List UInt8 := if scC s st nx lp l = 0 then scT s nx lp (ln0 s st) (scL l) else []
theorem lnsL {l : List UInt8} : ((lns l).map D.str)[(((((lns l).map D.str).length : Nat) : Int) - 1).toNat]? = some (.str ((lns l).getLast (lns_ne l))) := by
  rw [List.length_map, show ((((lns l).length : Nat) : Int) - 1).toNat = (lns l).length - 1 by omega, List.getElem?_map, <- List.getLast?_eq_getElem?, List.getLast?_eq_some_getLast (lns_ne l)]
  rfl
theorem takeL {l : List UInt8} : ((lns l).map D.str).take (((((lns l).map D.str).length : Nat) : Int) - 1).toNat = (lns l).dropLast.map D.str := by
  rw [List.length_map, List.dropLast_eq_take, List.map_take, show ((((lns l).length : Nat) : Int) - 1).toNat = (lns l).length - 1 by omega]
theorem el_strS {L : List (List UInt8)} {k : Nat} (h : k < L.length) : (L.map D.str)[((k : Nat) : Int).toNat]? = some (.str L[k]) := by simp [h]
theorem impl_RunScript {s st : Int} {nx : List (List Int)} {lp : List Int} {l : List UInt8} (h : RowsOk nx) (h2 : lp.length <= 9223372036854775807) (hl : l.length <= 1048576) :
    AC Tryz.prog 32 [ltD s nx lp, .int .i64 st, .str l] (.tup [.str (scO s st nx lp l), .int .i64 (scC s st nx lp l)]) := by
  have e1 := strings_Split hl
  have e2 := impl_ValidLit (s := s) h h2
  have hll := lns_len l
  have hx := lnsL (l := l)
  have htl := takeL (l := l)
  have hml : ((lns l).map D.str).length = (lns l).length := by simp
  have hlp : 1 <= (lns l).length := List.length_pos_iff.2 (lns_ne l)
  have hel : elsOk 1 ((lns l).map D.str) = true := elsOk_of fun y hy => by
    obtain ⟨p, _, rfl⟩ := List.mem_map.1 hy
    exact ⟨rfl, rfl⟩
  have hsl : (scL l).length <= (lns l).length := by
    unfold scL
    split
    . simp
    . exact Nat.le_refl _
  have hsm : ((scL l).map D.str).length = (scL l).length := by simp
  have hp : ∀ p ∈ scL l, p.length <= 1048576 := fun p hp => by have := scL_mem hp; omega
  have hz : ((lns l).getLast (lns_ne l) = [] /\ scL l = (lns l).dropLast) \/ (decide ((lns l).getLast (lns_ne l) = []) = false /\ scL l = lns l) := by
    by_cases hz : (lns l).getLast (lns_ne l) = []
    . exact .inl ⟨hz, if_pos hz⟩
    . exact .inr ⟨decide_eq_false hz, if_neg hz⟩
  generalize (lns l).getLast (lns_ne l) = la at *
  unfold scO
  cases hv : litOk s nx lp with
  | false =>
    rw [hv] at e2
    have hc : scC s st nx lp l = 1 := if_neg (by rw [hv]; decide)
    rw [hc]
    unfold ltD
    rcases hz with ⟨hz, hs⟩ | ⟨hz, hs⟩
    . subst hz
      refine ac_intro tabIs _ Tryz.func32 rfl rfl Tryz.ntmps32 rfl rfl fun w0 ok0 he0 => ?_
      repeat (first | refine zc ?_ | ((first | apply x_l | apply x_q | apply x_lr | apply x_qr); (focus (first | (apply qa_slice_h; (iterate 8 (focus (first | exact rfl | (first | assumption | omega | (simp; omega) | (simp; done) | rfl))))))); exact rfl) | refine zk (e := by exact e1) (n := ?_) | refine zk (e := by exact e2) (n := ?_) | (apply v_x; (iterate 2 exact rfl); (focus (intro ok0 nw hle; (first | (apply qa_slice_h; (iterate 8 (focus (first | exact rfl | (first | assumption | omega | (simp; omega) | (simp; done) | rfl)))))))); (iterate 2 exact rfl)) | refine zv ?_)
      refine zt ?_
      rfl
    . refine ac_intro tabIs _ Tryz.func32 rfl rfl Tryz.ntmps32 rfl rfl fun w0 ok0 he0 => ?_
      repeat (first | refine zc ?_ | refine zk (e := by exact e1) (n := ?_) | refine zk (e := by exact e2) (n := ?_) | refine zv ?_ | refine zg ?_)
      refine zt ?_
      rfl
  | true =>
    rw [hv] at e2
    have v := lv_of hv
    have hs1 := v.s1
    have e3 := impl_isStateA (s := s) (q := st) (nx := nx) (by omega)
    by_cases hok : 0 <= st /\ st < s /\ l.length <= 20000 /\ (scL l).length <= 120
    . have hc : scC s st nx lp l = 0 := by unfold scC; rw [if_pos hv, if_pos hok]
      rw [hc, if_pos rfl]
      have hb : inB st 0 (s - 1) = true := by simp [inB]; omega
      rw [hb] at e3
      have c0 := impl_newWorksH (s := s) (st := st) (nx := nx) (lp := lp) (by omega)
      have hn0 := ln0_ok (nx := nx) (s := s) (st := st) ⟨hok.1, hok.2.1⟩
      have h20 : ¬ 20000 < l.length := by omega
      have h120 : ¬ 120 < (scL l).length := by omega
      unfold ltD at *
      rcases hz with ⟨hz, hs⟩ | ⟨hz, hs⟩
      case' inl =>
        subst hz
        rw [<- hs] at htl
        generalize scL l = ls at *
        refine ac_intro tabIs _ Tryz.func32 rfl rfl Tryz.ntmps32 rfl rfl fun w0 ok0 he0 => ?_
        repeat (first | refine zc ?_ | ((first | apply x_l | apply x_q | apply x_lr | apply x_qr); (focus (first | (apply qa_slice_h; (iterate 8 (focus (first | exact rfl | (first | assumption | omega | (simp; omega) | (simp; done) | rfl))))))); exact rfl) | refine zk (e := by exact e1) (n := ?_) | (apply v_x; (iterate 2 exact rfl); (focus (intro ok0 nw hle; (first | (apply qa_slice_h; (iterate 8 (focus (first | exact rfl | (first | assumption | omega | (simp; omega) | (simp; done) | rfl)))))))); (iterate 2 exact rfl)) | refine zv ?_ | refine zg ?_)
        rw [htl]
      case' inr =>
        rw [<- hs] at e1 hx hml hel hll hlp
        generalize scL l = ls at *
        refine ac_intro tabIs _ Tryz.func32 rfl rfl Tryz.ntmps32 rfl rfl fun w0 ok0 he0 => ?_
        repeat (first | refine zc ?_ | refine zk (e := by exact e1) (n := ?_) | refine zv ?_ | refine zg ?_)
      all_goals
        repeat (first | refine zc ?_ | refine zk (e := by exact e2) (n := ?_) | refine zk (e := by exact e3) (n := ?_) | refine zv ?_ | refine zg ?_)
        refine hcl [] [(30000, 600)] c0 ?_
        repeat (first | refine zcr ?_ | refine zv ?_)
        refine awp_cellLe 600 4 rfl rfl .nil ?_
        refine awp_nilCell 600 11 99 93 4 rfl rfl rfl rfl rfl ?_
        repeat (first | refine zc ?_ | refine zv ?_)
        refine awp_sub (s' := [(9, .ref 600 0), (10, .d (.str [])), (50, .d (.lst (ls.map .str))), (51, .d (.int .i64 (ls.map D.str).length)), (52, .d (.int .i64 0))]) (by exact zs) ?_
        refine awp_permTo [(600, wkB (.own 99) (ln0 s st) s nx lp), (99, wrC [])] rfl ?_
        refine awp_loop (fun i : Nat => i <= ls.length) (fun i => [(9, .ref 600 0), (10, .d (.str (scT s nx lp (ln0 s st) (ls.take i)))), (50, .d (.lst (ls.map .str))), (51, .d (.int .i64 (ls.map D.str).length)), (52, .d (.int .i64 i))])
          (fun i => [(600, wkB (.own 99) (scN s nx lp (ln0 s st) (ls.take i)) s nx lp), (99, wrC (scN s nx lp (ln0 s st) (ls.take i)).wire)]) (fun i => ls.length - i) 0 (by omega) (by exact zs) rfl ?_
      all_goals
        intro i hi
        by_cases hlt : i < ls.length
        . have hxi := el_strS hlt
          have hln := scN_ok hv (ls.take i) hn0
          rw [List.length_take] at hln
          have c1 := impl_answerH (l := ls[i]) hv hln (by omega) (hp _ (List.getElem_mem hlt))
          have hal := ansF_len (l := ls[i]) hv hln
          have htl2 := scT_len hv (ls.take i) hn0
          rw [List.length_take] at htl2
          have s1 := scN_snoc (s := s) (nx := nx) (lp := lp) (ls.take i) ls[i] (ln0 s st)
          have s2 := scT_snoc (s := s) (nx := nx) (lp := lp) (ls.take i) ls[i] (ln0 s st)
          rw [<- List.take_succ_eq_append_getElem hlt] at s1 s2
          have hmin : min i ls.length = i := by omega
          rw [hmin] at htl2
          generalize scN s nx lp (ln0 s st) (ls.take i) = n at *
          generalize scT s nx lp (ln0 s st) (ls.take i) = tt at *
          generalize ansF s nx lp n ls[i] = r at *
          generalize ls[i] = li at *
          have hral : r.2.length + 1 <= 1001 := by omega
          repeat (first | refine zc ?_ | refine zv ?_)
          refine hcl [(600, 10000), (99, 20000)] [(10000, 600), (20000, 99)] c1 ?_
          repeat (first | refine zc ?_ | refine zv ?_)
          refine loop_n (i + 1) (by omega) ?_ ?_ (by omega)
          . rw [s2]; exact zs
          . rw [s1]; rfl
        . have : i = ls.length := by omega
          subst this
          rw [List.take_length]
          repeat (first | refine zc ?_ | refine zv ?_)
          refine zt ?_
          rfl
    . have hc : scC s st nx lp l = 2 := by unfold scC; rw [if_pos hv, if_neg hok]
      rw [hc]
      unfold ltD
      have hb : inB st 0 (s - 1) = false \/ (inB st 0 (s - 1) = true /\ (20000 < l.length \/ (¬ 20000 < l.length /\ 120 < (scL l).length))) := by
        cases hb : inB st 0 (s - 1) with
        | false => exact .inl rfl
        | true =>
          simp only [inB, Bool.and_eq_true, decide_eq_true_eq] at hb
          exact .inr ⟨rfl, by omega⟩
      rcases hb with hb | ⟨hb, hb2 | ⟨hb2, hb3⟩⟩
      all_goals rw [hb] at e3
      all_goals rcases hz with ⟨hz, hs⟩ | ⟨hz, hs⟩
      all_goals rw [hs] at hsm hok
      all_goals (try rw [hs] at hb3)
      all_goals (try generalize (lns l).dropLast = dl at *)
      all_goals (try subst hz)
      all_goals
        refine ac_intro tabIs _ Tryz.func32 rfl rfl Tryz.ntmps32 rfl rfl fun w0 ok0 he0 => ?_
        repeat (first | refine zc ?_ | ((first | apply x_l | apply x_q | apply x_lr | apply x_qr); (focus (first | (apply qa_slice_h; (iterate 8 (focus (first | exact rfl | (first | assumption | omega | (simp; omega) | (simp; done) | rfl))))))); exact rfl) | refine zk (e := by exact e1) (n := ?_) | (apply v_x; (iterate 2 exact rfl); (focus (intro ok0 nw hle; (first | (apply qa_slice_h; (iterate 8 (focus (first | exact rfl | (first | assumption | omega | (simp; omega) | (simp; done) | rfl)))))))); (iterate 2 exact rfl)) | refine zv ?_ | refine zg ?_)
        (try rw [htl])
        repeat (first | refine zc ?_ | refine zk (e := by exact e2) (n := ?_) | refine zk (e := by exact e3) (n := ?_) | refine zv ?_ | refine zg ?_)
        refine zt ?_
        rfl
end Go.Proofs.YtffmlijngfhhaaaGreatDoor
namespace Go.Proofs.YtffmlijngfhhaaaGreatDoor
open Go
attribute [local irreducible] awp awpL awpQL awpQ awpM pWalk Qt AC thenQ blockQ loopQ OpTo
set_option linter.unusedVariables false
set_option linter.unusedSimpArgs false
set_option maxHeartbeats 2000000
attribute [local irreducible] HC
open Go.Lib (itoa)
theorem spec_RunScript {s st : Int} {nx : List (List Int)} {lp : List Int} {l : List UInt8} (h : RowsOk nx) (h2 : lp.length <= 9223372036854775807) (hl : l.length <= 1048576) :
    AC Tryz.prog 30 [ltD s nx lp, .int .i64 st, .str l] (.tup [.str (scO s st nx lp l), .int .i64 (scC s st nx lp l)]) := by
  have e1 := spec_l01Split hl
  have e2 := spec_l08Ok (s := s) h h2
  have e3 := spec_l00In (n := st) (lo := 0) (hi := s - 1)
  have hll := lns_len l
  have hx := lnsL (l := l)
  have htl := takeL (l := l)
  have hml : ((lns l).map D.str).length = (lns l).length := by simp
  have hlp : 1 <= (lns l).length := List.length_pos_iff.2 (lns_ne l)
  have hel : elsOk 1 ((lns l).map D.str) = true := elsOk_of fun y hy => by
    obtain ⟨p, _, rfl⟩ := List.mem_map.1 hy
    exact ⟨rfl, rfl⟩
  have hsl : (scL l).length <= (lns l).length := by
    unfold scL
    split
    . simp
    . exact Nat.le_refl _
  have hsm : ((scL l).map D.str).length = (scL l).length := by simp
  have hp : ∀ p ∈ scL l, p.length <= 1048576 := fun p hp => by have := scL_mem hp; omega
  have hz : ((lns l).getLast (lns_ne l) = [] /\ scL l = (lns l).dropLast) \/ (decide ((lns l).getLast (lns_ne l) = []) = false /\ scL l = lns l) := by
    by_cases hz : (lns l).getLast (lns_ne l) = []
    . exact .inl ⟨hz, if_pos hz⟩
    . exact .inr ⟨decide_eq_false hz, if_neg hz⟩
  generalize (lns l).getLast (lns_ne l) = la at *
  unfold scO
  cases hv : litOk s nx lp with
  | false =>
    rw [hv] at e2
    have hc : scC s st nx lp l = 1 := if_neg (by rw [hv]; decide)
    rw [hc]
    unfold ltD
    refine ac_intro tabIs _ Tryz.func30 rfl rfl Tryz.ntmps30 rfl rfl fun w0 ok0 he0 => ?_
    repeat (first | refine zc ?_ | refine zk (e := by exact e2) (n := ?_) | refine zv ?_)
    refine zt ?_
    rfl
  | true =>
    rw [hv] at e2
    have v := lv_of hv
    have hs1 := v.s1
    by_cases hok : 0 <= st /\ st < s /\ l.length <= 20000 /\ (scL l).length <= 120
    . have hc : scC s st nx lp l = 0 := by unfold scC; rw [if_pos hv, if_pos hok]
      rw [hc, if_pos rfl]
      have hb : inB st 0 (s - 1) = true := by simp [inB]; omega
      rw [hb] at e3
      have c0 := spec_l08Begin (s := s) (st := st) (nx := nx) (lp := lp) (by omega)
      have hn0 := ln0_ok (nx := nx) (s := s) (st := st) ⟨hok.1, hok.2.1⟩
      have h20 : ¬ 20000 < l.length := by omega
      have h120 : ¬ 120 < (scL l).length := by omega
      unfold ltD at *
      rcases hz with ⟨hz, hs⟩ | ⟨hz, hs⟩
      case' inl =>
        subst hz
        rw [<- hs] at htl
        generalize scL l = ls at *
        refine ac_intro tabIs _ Tryz.func30 rfl rfl Tryz.ntmps30 rfl rfl fun w0 ok0 he0 => ?_
        repeat (first | refine zc ?_ | ((first | apply x_l | apply x_q | apply x_lr | apply x_qr); (focus (first | (apply qa_slice_h; (iterate 8 (focus (first | exact rfl | (first | assumption | omega | (simp; omega) | (simp; done) | rfl))))))); exact rfl) | refine zk (e := by exact e1) (n := ?_) | refine zk (e := by exact e2) (n := ?_) | (apply v_x; (iterate 2 exact rfl); (focus (intro ok0 nw hle; (first | (apply qa_slice_h; (iterate 8 (focus (first | exact rfl | (first | assumption | omega | (simp; omega) | (simp; done) | rfl)))))))); (iterate 2 exact rfl)) | refine zv ?_ | refine zg ?_)
        rw [htl]
      case' inr =>
        rw [<- hs] at e1 hx hml hel hll hlp
        generalize scL l = ls at *
        refine ac_intro tabIs _ Tryz.func30 rfl rfl Tryz.ntmps30 rfl rfl fun w0 ok0 he0 => ?_
        repeat (first | refine zc ?_ | refine zk (e := by exact e1) (n := ?_) | refine zk (e := by exact e2) (n := ?_) | refine zv ?_ | refine zg ?_)
      all_goals
        repeat (first | refine zc ?_ | refine zk (e := by exact e3) (n := ?_) | refine zk (e := by exact c0) (n := ?_) | refine zv ?_ | refine zg ?_)
        refine awp_nilCell 9 11 99 93 4 rfl rfl rfl rfl rfl ?_
        refine awp_sub (s' := [(3, .d (.ptr (.agg [.int .i64 s, rows nx, ints lp]))), (8, .d (.lst (ls.map .str))), (9, .ref 9 0), (10, .d (.str [])), (11, .d (.int .i64 0))]) (by exact zs) ?_
        refine awp_permTo [(9, lnB (.own 99) (ln0 s st)), (99, wrC [])] rfl ?_
        refine awp_loop (fun i : Nat => i <= ls.length) (fun i => [(3, .d (.ptr (.agg [.int .i64 s, rows nx, ints lp]))), (8, .d (.lst (ls.map .str))), (9, .ref 9 0), (10, .d (.str (scT s nx lp (ln0 s st) (ls.take i)))), (11, .d (.int .i64 i))])
          (fun i => [(9, lnB (.own 99) (scN s nx lp (ln0 s st) (ls.take i))), (99, wrC (scN s nx lp (ln0 s st) (ls.take i)).wire)]) (fun i => ls.length - i) 0 (by omega) (by exact zs) rfl ?_
      all_goals
        intro i hi
        by_cases hlt : i < ls.length
        . have hxi := el_strS hlt
          have hln := scN_ok hv (ls.take i) hn0
          rw [List.length_take] at hln
          have c1 := spec_ReadDeed (hp _ (List.getElem_mem hlt))
          have hal := ansF_len (l := ls[i]) hv hln
          have htl2 := scT_len hv (ls.take i) hn0
          rw [List.length_take] at htl2
          have s1 := scN_snoc (s := s) (nx := nx) (lp := lp) (ls.take i) ls[i] (ln0 s st)
          have s2 := scT_snoc (s := s) (nx := nx) (lp := lp) (ls.take i) ls[i] (ln0 s st)
          rw [<- List.take_succ_eq_append_getElem hlt] at s1 s2
          have hmin : min i ls.length = i := by omega
          rw [hmin] at htl2
          generalize scN s nx lp (ln0 s st) (ls.take i) = n at *
          generalize scT s nx lp (ln0 s st) (ls.take i) = tt at *
          generalize ls[i] = li at *
          unfold rdV at c1
          unfold ansF at hal s1 s2
          cases hr : rd li with
          | some p =>
            obtain ⟨k, a⟩ := p
            rw [hr] at c1 hal s1 s2
            have hd := vdeed_k (rd_iff.1 hr).1
            have h1 := hd.1
            simp only [inB, Bool.and_eq_true, decide_eq_true_eq] at h1
            have c2 := spec_l08Do (c := k) (a := a) hv hln (by omega) ⟨h1.1, h1.2, hd.2.1, hd.2.2.1⟩
            have hcode := doF_code (s := s) (nx := nx) (lp := lp) (n := n) (k := k) (a := a)
            dsimp only at c1 hal s1 s2
            generalize doF s nx lp n k a = r at *
            unfold deedD ltD at c2
            by_cases h0 : r.2 = 0
            . rw [if_pos h0] at s2
              repeat (first | refine zcr ?_ | refine zv ?_)
              refine awp_region ?_
              repeat (first | refine zcr ?_ | refine zv ?_)
              refine awp_region ?_
              repeat (first | refine zcr ?_ | refine zk (e := by exact c1) (n := ?_) | refine zv ?_)
              refine awp_freezeB 12 rfl rfl rfl ?_
              repeat (first | refine zc ?_ | refine zv ?_)
              refine hcl [(9, 10000), (99, 20000)] [(10000, 9), (20000, 99)] c2 ?_
              repeat (first | refine zc ?_ | refine zv ?_ | refine zg ?_)
              refine loop_n (i + 1) (by omega) ?_ ?_ (by omega)
              . rw [s2]; exact zs
              . rw [s1]; rfl
            . rw [if_neg h0] at s2
              have e4 := spec_CodeName (c := r.2) (by omega)
              have hcl5 := cnm_len r.2
              generalize cnm r.2 = cn at *
              repeat (first | refine zcr ?_ | refine zv ?_)
              refine awp_region ?_
              repeat (first | refine zcr ?_ | refine zv ?_)
              refine awp_region ?_
              repeat (first | refine zcr ?_ | refine zk (e := by exact c1) (n := ?_) | refine zv ?_)
              refine awp_freezeB 12 rfl rfl rfl ?_
              repeat (first | refine zc ?_ | refine zv ?_)
              refine hcl [(9, 10000), (99, 20000)] [(10000, 9), (20000, 99)] c2 ?_
              repeat (first | refine zc ?_ | refine zk (e := by exact e4) (n := ?_) | refine zv ?_ | refine zg ?_)
              refine loop_n (i + 1) (by omega) ?_ ?_ (by omega)
              . rw [s2]; exact zs
              . rw [s1]; rfl
          | none =>
            rw [hr] at c1 hal s1 s2
            dsimp only at c1 hal s1 s2
            have hmm : (n.wire.map pkD).length = n.wire.length := by simp
            have hwl := hln.wl
            by_cases k1 : li = [116, 111, 108, 100]
            . subst k1
              rw [if_pos rfl] at s2 hal
              obtain ⟨t1, t2⟩ := toldD_facts hv hln.d
              have c3 := spec_l08ToldR (n := n) (lp := lp) v hln.d
              have e4 := spec_l08States t1 t2
              unfold ltD at c3
              generalize toldD nx n.d = td at *
              generalize sepT td = tx at *
              repeat (first | refine zcr ?_ | refine zv ?_)
              refine awp_region ?_
              repeat (first | refine zcr ?_ | refine zv ?_)
              refine awp_region ?_
              repeat (first | refine zcr ?_ | refine zk (e := by exact c1) (n := ?_) | refine zv ?_)
              refine awp_freezeB 12 rfl rfl rfl ?_
              repeat (first | refine zc ?_ | refine zv ?_)
              refine hcl [(9, 10000), (99, 20000)] [(10000, 9), (20000, 99)] c3 ?_
              repeat (first | refine zc ?_ | refine zk (e := by exact e4) (n := ?_) | refine zv ?_)
              refine loop_n (i + 1) (by omega) ?_ ?_ (by omega)
              . rw [s2]; exact zs
              . rw [s1]; rfl
            rw [if_neg k1] at s2 hal
            have d1 : decide (li = [116, 111, 108, 100]) = false := decide_eq_false k1
            by_cases k2 : li = [111, 114, 100, 101, 114, 115]
            . subst k2
              rw [if_pos rfl] at s2 hal
              have e4 := spec_WordText (w := n.d.ord) (by have := hln.d.len; omega)
              generalize wtx n.d.ord = tx at *
              repeat (first | refine zcr ?_ | refine zv ?_)
              refine awp_region ?_
              repeat (first | refine zcr ?_ | refine zv ?_)
              refine awp_region ?_
              repeat (first | refine zcr ?_ | refine zk (e := by exact c1) (n := ?_) | refine zv ?_)
              refine awp_freezeB 12 rfl rfl rfl ?_
              repeat (first | refine zc ?_ | refine zk (e := by exact e4) (n := ?_) | refine zv ?_)
              refine loop_n (i + 1) (by omega) ?_ ?_ (by omega)
              . rw [s2]; exact zs
              . rw [s1]; rfl
            rw [if_neg k2] at s2 hal
            have d2 : decide (li = [111, 114, 100, 101, 114, 115]) = false := decide_eq_false k2
            by_cases k3 : li = [119, 105, 114, 101]
            . subst k3
              rw [if_pos rfl] at s2 hal
              have e4 := spec_Decimal (n := (n.wire.length : Int)) (by omega)
              rw [<- hmm] at e4 s2 hal
              generalize itoa ((n.wire.map pkD).length : Int) = tx at *
              repeat (first | refine zcr ?_ | refine zv ?_)
              refine awp_region ?_
              repeat (first | refine zcr ?_ | refine zv ?_)
              refine awp_region ?_
              repeat (first | refine zcr ?_ | refine zk (e := by exact c1) (n := ?_) | refine zv ?_)
              refine awp_freezeB 12 rfl rfl rfl ?_
              repeat (first | refine zc ?_ | refine zk (e := by exact e4) (n := ?_) | refine zv ?_)
              refine loop_n (i + 1) (by omega) ?_ ?_ (by omega)
              . rw [s2]; exact zs
              . rw [s1]; rfl
            rw [if_neg k3] at s2 hal
            have d3 : decide (li = [119, 105, 114, 101]) = false := decide_eq_false k3
            repeat (first | refine zcr ?_ | refine zv ?_)
            refine awp_region ?_
            repeat (first | refine zcr ?_ | refine zv ?_)
            refine awp_region ?_
            repeat (first | refine zcr ?_ | refine zk (e := by exact c1) (n := ?_) | refine zv ?_)
            refine awp_freezeB 12 rfl rfl rfl ?_
            repeat (first | refine zc ?_ | refine zv ?_ | refine zg ?_)
            refine loop_n (i + 1) (by omega) ?_ ?_ (by omega)
            . rw [s2]; exact zs
            . rw [s1]; rfl
        . have : i = ls.length := by omega
          subst this
          rw [List.take_length]
          repeat (first | refine zc ?_ | refine zv ?_)
          refine zt ?_
          rfl
    . have hc : scC s st nx lp l = 2 := by unfold scC; rw [if_pos hv, if_neg hok]
      rw [hc]
      unfold ltD
      have hb : inB st 0 (s - 1) = false \/ (inB st 0 (s - 1) = true /\ (20000 < l.length \/ (¬ 20000 < l.length /\ 120 < (scL l).length))) := by
        cases hb : inB st 0 (s - 1) with
        | false => exact .inl rfl
        | true =>
          simp only [inB, Bool.and_eq_true, decide_eq_true_eq] at hb
          exact .inr ⟨rfl, by omega⟩
      rcases hb with hb | ⟨hb, hb2 | ⟨hb2, hb3⟩⟩
      all_goals rw [hb] at e3
      all_goals rcases hz with ⟨hz, hs⟩ | ⟨hz, hs⟩
      all_goals rw [hs] at hsm hok
      all_goals (try rw [hs] at hb3)
      all_goals (try generalize (lns l).dropLast = dl at *)
      all_goals (try subst hz)
      all_goals
        refine ac_intro tabIs _ Tryz.func30 rfl rfl Tryz.ntmps30 rfl rfl fun w0 ok0 he0 => ?_
        repeat (first | refine zc ?_ | ((first | apply x_l | apply x_q | apply x_lr | apply x_qr); (focus (first | (apply qa_slice_h; (iterate 8 (focus (first | exact rfl | (first | assumption | omega | (simp; omega) | (simp; done) | rfl))))))); exact rfl) | refine zk (e := by exact e1) (n := ?_) | refine zk (e := by exact e2) (n := ?_) | (apply v_x; (iterate 2 exact rfl); (focus (intro ok0 nw hle; (first | (apply qa_slice_h; (iterate 8 (focus (first | exact rfl | (first | assumption | omega | (simp; omega) | (simp; done) | rfl)))))))); (iterate 2 exact rfl)) | refine zv ?_ | refine zg ?_)
        (try rw [htl])
        repeat (first | refine zc ?_ | refine zk (e := by exact e3) (n := ?_) | refine zv ?_ | refine zg ?_)
        refine zt ?_
        rfl
end Go.Proofs.YtffmlijngfhhaaaGreatDoor
