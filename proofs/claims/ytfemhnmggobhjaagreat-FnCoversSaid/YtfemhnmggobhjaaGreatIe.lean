/- StateCover in the program, and its law. No condition. -/
import Derived.Test.YtfemhnmggobhjaaGreatIc
import Derived.Test.YtfemhnmggobhjaaGreatTc
namespace Go.Proofs.YtfemhnmggobhjaaGreat
open Go
attribute [local irreducible] awp awpL awpQL awpQ awpM pWalk Qt AC thenQ blockQ loopQ OpTo
set_option linter.unusedVariables false
set_option linter.unusedSimpArgs false
set_option maxHeartbeats 2000000
attribute [local irreducible] HC HX
theorem impl_StateCover {s o : Int} {nx ou : List (List Int)} (h1 : RowsOk nx) (h2 : RowsOk ou) :
    HC Tryz.prog 17 [.d (mach s o nx ou)] [] (.tup [.own 30000, .d (.int .i64 (scD s o nx ou).2)]) [(30000, .rows 43 2 1 (rws (scD s o nx ou).1) none)] := by
  have e1 := impl_ValidMachine (s := s) (o := o) h1 h2
  unfold scD
  by_cases hv : machOk s o nx ou = true
  . rw [if_pos hv]
    rw [hv] at e1
    have e2 := impl_cover (mv_of hv)
    by_cases hc : ((covL nx).length : Int) < s
    . rw [if_pos hc]
      rw [decide_eq_true hc] at e2
      unfold mach at *
      refine hc_intro tabIs _ Tryz.func17 rfl rfl Tryz.ntmps17 rfl rfl rfl ?_ fun w0 ok0 XM XA anc => ?_
      . exact likeIn_nil
      repeat (first | refine zc ?_ | refine zk (e := by exact e1) (n := ?_) | refine zv ?_)
      refine hcl [] [(30000, 500)] e2 ?_
      repeat (first | refine zc ?_ | refine zv ?_)
      refine awp_nilSlot 2 300 43 1 rfl rfl rfl ?_
      refine awp_toRows 300 2 1 rfl rfl rfl rfl ?_
      (refine zb ?_; refine u_rH [(300, 30000)] ?_ ?_)
      . rfl
      . rfl
    . rw [if_neg hc]
      rw [decide_eq_false hc] at e2
      unfold mach at *
      refine hc_intro tabIs _ Tryz.func17 rfl rfl Tryz.ntmps17 rfl rfl rfl ?_ fun w0 ok0 XM XA anc => ?_
      . exact likeIn_nil
      repeat (first | refine zc ?_ | refine zk (e := by exact e1) (n := ?_) | refine zv ?_)
      refine hcl [] [(30000, 500)] e2 ?_
      repeat (first | refine zc ?_ | refine zv ?_)
      (refine zb ?_; refine u_rH [(500, 30000)] ?_ ?_)
      . rfl
      . rfl
  . rw [if_neg hv]
    rw [Bool.not_eq_true] at hv
    rw [hv] at e1
    unfold mach at *
    refine hc_intro tabIs _ Tryz.func17 rfl rfl Tryz.ntmps17 rfl rfl rfl ?_ fun w0 ok0 XM XA anc => ?_
    . exact likeIn_nil
    repeat (first | refine zc ?_ | refine zk (e := by exact e1) (n := ?_) | refine zv ?_)
    refine awp_nilSlot 2 300 43 1 rfl rfl rfl ?_
    refine awp_toRows 300 2 1 rfl rfl rfl rfl ?_
    (refine zb ?_; refine u_rH [(300, 30000)] ?_ ?_)
    . rfl
    . rfl
theorem scD_len {s o : Int} {nx ou : List (List Int)} : (scD s o nx ou).1.length ≤ 400 ∧ (∀ w ∈ (scD s o nx ou).1, w.length ≤ 400) ∧ RowsOk (scD s o nx ou).1 := by
  have h0 : ([] : List (List Int)).length ≤ 400 ∧ (∀ w ∈ ([] : List (List Int)), w.length ≤ 400) ∧ RowsOk [] := ⟨by simp, (fun w h => absurd h (by simp)), ⟨(fun w h => absurd h (by simp)), by simp⟩⟩
  unfold scD
  split
  . split
    . exact h0
    . rename_i hv _
      have m := mv_of hv
      have hs := m.s1
      have hn := m.n1
      have hok : COk s nx.length (covL nx) := lstC_ok m 10
      have hl := hok.len hs
      have key : ∀ w ∈ cvR (covL nx) s.toNat, w.length ≤ 10 ∧ ∀ l ∈ w, 0 ≤ l ∧ l < (nx.length : Int) := fun w hw => by
        obtain ⟨q, -, rfl⟩ := List.mem_map.1 hw
        by_cases hq : q ∈ (covL nx).map (·.1)
        . obtain ⟨p, hp, rfl⟩ := List.mem_map.1 hq
          obtain ⟨j, hj, ej⟩ := List.getElem_of_mem hp
          have hLj : (covL nx)[j]? = some p := by rw [List.getElem?_eq_getElem hj, ej]
          rw [cvW_at hok.nd hLj]
          have := hok.wl p hp
          exact ⟨by omega, hok.el p hp⟩
        . rw [cvW_none hq]
          exact ⟨by simp, fun l h => absurd h (by simp)⟩
      have hc : (cvR (covL nx) s.toNat).length = s.toNat := by simp [cvR]
      refine ⟨by rw [hc]; omega, fun w hw => by have := (key w hw).1; omega, ⟨fun w hw => ⟨fun l hl => ?_, by have := (key w hw).1; omega⟩, by rw [hc]; omega⟩⟩
      have := (key w hw).2 l hl
      unfold I64
      omega
  . exact h0
end Go.Proofs.YtfemhnmggobhjaaGreat
