/- KilledBy, in the reference and in the program, and its law. No condition. -/
import Derived.Test.YtfemhnmggobhjaaGreatNd
import Derived.Test.YtfemhnmggobhjaaGreatPb
namespace Go.Proofs.YtfemhnmggobhjaaGreat
open Go
attribute [local irreducible] awp awpL awpQL awpQ awpM pWalk Qt AC thenQ blockQ loopQ OpTo
set_option linter.unusedVariables false
set_option linter.unusedSimpArgs false
set_option maxHeartbeats 2000000
attribute [local irreducible] HC
def kilB (s o : Int) (nx ou ws : List (List Int)) (k : Int) : Bool := decide (0 <= (failS nx ou (mutX s o nx ou k).1 (mutX s o nx ou k).2 0 ws).1)
def kilL (s o : Int) (nx ou ws : List (List Int)) : Nat -> List Int
  | 0 => []
  | k + 1 => kilL s o nx ou ws k ++ if kilB s o nx ou ws k then [(k : Int)] else []
theorem kilL_len (s o : Int) (nx ou ws : List (List Int)) : ∀ k, (kilL s o nx ou ws k).length <= k
  | 0 => Nat.le_refl _
  | k + 1 => by
    have := kilL_len s o nx ou ws k
    unfold kilL
    rw [List.length_append]
    split <;> simp <;> omega
structure SuOk (n : Nat) (ws : List (List Int)) : Prop where
  len : ws.length <= 400
  all : ∀ w ∈ ws, w.length <= 400 /\ ∀ l ∈ w, 0 <= l /\ l < n
theorem impl_passes {s o s' o' : Int} {nx ou nx' ou' ws : List (List Int)} (m : MV s o nx ou) (n : MV s' o' nx' ou') (he : nx'.length = nx.length) (hw : SuOk nx.length ws) :
    AC Tryz.prog 91 [mach s o nx ou, mach s' o' nx' ou', rows ws] (.bool (decide ((failS nx ou nx' ou' 0 ws).1 < 0))) := by
  have e1 := impl_failing m n he hw.len hw.all
  unfold mach at *
  refine ac_intro tabIs _ Tryz.func91 rfl rfl Tryz.ntmps91 rfl rfl fun w0 ok0 he0 => ?_
  repeat (first | refine zc ?_ | refine zk (e := by exact e1) (n := ?_) | refine zv ?_)
  refine zt ?_
  rfl
theorem impl_mutant {s o k : Int} {nx ou : List (List Int)} (m : MV s o nx ou) (hk : 0 <= k /\ k < mutN s o nx.length) : AC Tryz.prog 85 [mach s o nx ou, .int .i64 k] (mach s o (mutX s o nx ou k).1 (mutX s o nx ou k).2) := by
  have := ac_of_hc (xs := [mach s o nx ou, .int .i64 k]) (d := .agg [.int .i64 s, .int .i64 o, .lst ((rws (mutX s o nx ou k).1).map D.lst), .lst ((rws (mutX s o nx ou k).2).map D.lst)]) (impl_mutantH m hk) rfl
  rw [rws_dat, rws_dat] at this
  exact this
theorem impl_killedH {s o : Int} {nx ou ws : List (List Int)} (m : MV s o nx ou) (hw : SuOk nx.length ws) :
    HC Tryz.prog 125 [.d (mach s o nx ou), .d (rows ws)] [] (.own 30000) [(30000, .arr 2 1 ((kilL s o nx ou ws (mutN s o nx.length).toNat).map (.int .i64)))] := by
  have hb := mutN_bounds m.s1 m.o1 m.n1.2
  have e1 := impl_mutants (ou := ou) m.s1 m.o1 m.n1.2
  refine hc_intro tabIs _ Tryz.func125 rfl rfl Tryz.ntmps125 rfl rfl rfl ?_ fun w0 ok0 XM XA anc he0 hX0 => ?_
  . exact likeIn_nil
  repeat (first | refine v_w (t := 7) ?_ | refine zc ?_ | refine u_w (t := 7) ?_ | refine zk (e := by exact e1) (n := ?_) | refine zv ?_)
  refine awp_loop (fun k : Nat => (k : Int) <= mutN s o nx.length) (fun k => [(1, .d (rows ws)), (2, .d (.ptr (mach s o nx ou))), (5, .own 7), (9, .d (.int .i64 (mutN s o nx.length))), (10, .d (.int .i64 k))]) (fun k => [(7, .arr 2 1 ((kilL s o nx ou ws k).map (.int .i64)))]) (fun k => (mutN s o nx.length).toNat - k) 0 (by omega) ?_ rfl ?_
  . exact zs
  . intro k hk
    have hkl := kilL_len s o nx ou ws k
    have hml : ((kilL s o nx ou ws k).map (D.int .i64)).length <= 1000 := by simp; omega
    by_cases hlt : (k : Int) < mutN s o nx.length
    . have e2 := impl_mutant m (k := (k : Int)) (by omega)
      obtain ⟨m', hl'⟩ := mv_mut m (k := (k : Int)) (by omega)
      have e3 := impl_passes m m' hl' hw
      have hstep : kilL s o nx ou ws (k + 1) = kilL s o nx ou ws k ++ if kilB s o nx ou ws k then [(k : Int)] else [] := rfl
      unfold kilB at hstep
      generalize failS nx ou (mutX s o nx ou k).1 (mutX s o nx ou k).2 0 ws = p at *
      generalize mutX s o nx ou k = X at *
      by_cases hp : 0 <= p.1
      . have hp' : ¬ p.1 < 0 := by omega
        simp only [hp, decide_true, if_true] at hstep
        repeat (first | refine zc ?_ | refine zk (e := by exact e2) (n := ?_) | refine zk (e := by exact e3) (n := ?_) | refine zv ?_)
        refine loop_n (k + 1) (by omega) ?_ ?_ (by omega)
        . exact zs
        . rw [hstep, List.map_append]; rfl
      . have hp' : p.1 < 0 := by omega
        simp only [hp, decide_false, Bool.false_eq_true, if_false, List.append_nil] at hstep
        repeat (first | refine zc ?_ | refine zk (e := by exact e2) (n := ?_) | refine zk (e := by exact e3) (n := ?_) | refine zv ?_)
        refine loop_n (k + 1) (by omega) ?_ ?_ (by omega)
        . exact zs
        . rw [hstep]
    . have hk' : k = (mutN s o nx.length).toNat := by omega
      subst hk'
      repeat (first | refine zc ?_ | refine zv ?_)
      (refine zb ?_; refine u_rH [(7, 30000)] ?_ ?_)
      . rfl
      . rfl
def kilD (s o : Int) (nx ou ws : List (List Int)) : List Int × Int :=
  if machOk s o nx ou then (if suiteOk nx.length ws then (kilL s o nx ou ws (mutN s o nx.length).toNat, 0) else ([], 2)) else ([], 1)
theorem impl_KilledBy1 {s o : Int} {nx ou ws : List (List Int)} (h1 : RowsOk nx) (h3 : RowsOk ws) : AC Tryz.prog 124 [.ptr (mach s o nx ou), .ptr (rows ws)] (.bool (suiteOk nx.length ws)) := by
  have e1 := impl_isSuite (s := s) (o := o) (nx := nx) (ou := ou) (ws := ws) h1.2 h3
  refine ac_intro tabIs _ Tryz.func124 rfl rfl Tryz.ntmps124 rfl rfl fun w0 ok0 he0 => ?_
  repeat (first | refine zc ?_ | refine zk (e := by exact e1) (n := ?_) | refine zv ?_)
  refine zt ?_
  rfl
theorem impl_KilledByH {s o : Int} {nx ou ws : List (List Int)} (h1 : RowsOk nx) (h2 : RowsOk ou) (h3 : RowsOk ws) :
    HC Tryz.prog 83 [.d (mach s o nx ou), .d (rows ws)] [] (.tup [.own 30000, .d (.int .i64 (kilD s o nx ou ws).2)]) [(30000, .arr 2 1 ((kilD s o nx ou ws).1.map (.int .i64)))] := by
  have e1 := impl_code (s := s) (o := o) (g := 124) (cap := [.ptr (mach s o nx ou), .ptr (rows ws)]) h1 h2 fun _ => impl_KilledBy1 h1 h3
  unfold kilD
  by_cases hv : machOk s o nx ou = true
  . rw [if_pos hv] at e1 ⊢
    by_cases hr : suiteOk nx.length ws = true
    . rw [if_pos hr] at e1 ⊢
      obtain ⟨q1, q2⟩ := suite_of hr
      have e3 := impl_killedH (mv_of hv) ⟨q1, q2⟩
      refine hc_intro tabIs _ Tryz.func83 rfl rfl Tryz.ntmps83 rfl rfl rfl ?_ fun w0 ok0 XM XA anc he0 hX0 => ?_
      . exact likeIn_nil
      repeat (first | refine zc ?_ | refine zk (e := by exact e1) (n := ?_) | refine zv ?_)
      refine hcl [] [(30000, 500)] e3 ?_
      repeat (first | refine zc ?_ | refine zv ?_)
      (refine zb ?_; refine u_rH [(500, 30000)] ?_ ?_)
      . rfl
      . rfl
    . rw [if_neg hr] at e1 ⊢
      refine hc_intro tabIs _ Tryz.func83 rfl rfl Tryz.ntmps83 rfl rfl rfl ?_ fun w0 ok0 XM XA anc he0 hX0 => ?_
      . exact likeIn_nil
      repeat (first | refine zc ?_ | refine zk (e := by exact e1) (n := ?_) | refine zv ?_)
      refine awp_nilSlot 4 300 2 1 rfl rfl rfl ?_
      (refine zb ?_; refine u_rH [(300, 30000)] ?_ ?_)
      . rfl
      . rfl
  . rw [if_neg hv] at e1 ⊢
    refine hc_intro tabIs _ Tryz.func83 rfl rfl Tryz.ntmps83 rfl rfl rfl ?_ fun w0 ok0 XM XA anc he0 hX0 => ?_
    . exact likeIn_nil
    repeat (first | refine zc ?_ | refine zk (e := by exact e1) (n := ?_) | refine zv ?_)
    refine awp_nilSlot 4 300 2 1 rfl rfl rfl ?_
    (refine zb ?_; refine u_rH [(300, 30000)] ?_ ?_)
    . rfl
    . rfl
end Go.Proofs.YtfemhnmggobhjaaGreat
