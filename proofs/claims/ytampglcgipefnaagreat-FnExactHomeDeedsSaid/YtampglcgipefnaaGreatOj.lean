/- What is told of a line: in the reference and in the program. No condition. -/
import Derived.Test.YtampglcgipefnaaGreatOi
namespace Go.Proofs.YtampglcgipefnaaGreat
open Go
attribute [local irreducible] awp awpL awpQL awpQ awpM pWalk Qt AC thenQ blockQ loopQ OpTo
set_option linter.unusedVariables false
set_option linter.unusedSimpArgs false
set_option maxHeartbeats 2000000
attribute [local irreducible] HC

theorem ris_le10 {s : Int} {l : List Int} (hs : s ≤ 10) (h1 : ∀ q ∈ l, 0 ≤ q ∧ q < s) (h2 : l.Pairwise (· < ·)) : l.length ≤ 10 := by
  have := incr_len h2 0 fun q hq => by have := h1 q hq; omega
  omega

def doneF : List Int → Nat
  | [] => 0
  | c :: cs => (if c = 0 then 1 else 0) + doneF cs
theorem doneF_append : ∀ (a b : List Int), doneF (a ++ b) = doneF a + doneF b
  | [], b => by simp [doneF]
  | c :: a, b => by simp only [List.cons_append, doneF]; rw [doneF_append a b]; omega
theorem doneF_le : ∀ a : List Int, doneF a ≤ a.length
  | [] => Nat.le_refl _
  | c :: a => by have := doneF_le a; simp only [doneF, List.length_cons]; split <;> omega

theorem impl_afterH {s st : Int} {nx : List (List Int)} {lp : List Int} {ds : List (Int × Int)} (hv : litOk s nx lp = true) (hst : 0 ≤ st ∧ st < s) (hd : ∀ p ∈ ds, ddOk p) (h3 : ds.length ≤ 400) :
    HC Tryz.prog 51 [.d (ltD s nx lp), .d (.int .i64 st), .d (deedsD ds)] [] (.tup [.ref 30000 0, .d (.int .i64 (doneF (codesF s nx lp (ln0 s st) ds) : Nat))]) [(30000, wkB (.own 30001) (runF s nx lp (ln0 s st) ds) s nx lp), (30001, wrC (runF s nx lp (ln0 s st) ds).wire)] := by
  have hle : (ds.map deedD).length = ds.length := by simp
  have v := lv_of hv
  have hs := v.s1
  have c0 := impl_newWorksH (s := s) (st := st) (nx := nx) (lp := lp) (by omega)
  unfold ltD deedsD at *
  refine hc_intro tabIs _ Tryz.func51 rfl rfl Tryz.ntmps51 rfl rfl rfl ?_ fun w0 ok0 XM XA anc => ?_
  · exact likeIn_nil
  repeat (first | refine zc ?_ | refine zv ?_)
  refine hcl [] [(30000, 600)] c0 ?_
  repeat (first | refine zcr ?_ | refine zv ?_)
  refine awp_cellLe 600 4 rfl rfl .nil ?_
  refine awp_nilCell 600 11 99 90 4 rfl rfl rfl rfl rfl ?_
  repeat (first | refine zc ?_ | refine zv ?_)
  refine awp_permTo [(600, wkB (.own 99) (ln0 s st) s nx lp), (99, wrC [])] rfl ?_
  refine awp_loop (fun k : Nat => k ≤ ds.length) (fun k => [(8, .ref 600 0), (9, .d (.int .i64 (doneF (codesF s nx lp (ln0 s st) (ds.take k)) : Nat))), (15, .d (.lst (ds.map deedD))), (16, .d (.int .i64 (ds.map deedD).length)), (17, .d (.int .i64 k))])
    (fun k => [(600, wkB (.own 99) (runF s nx lp (ln0 s st) (ds.take k)) s nx lp), (99, wrC (runF s nx lp (ln0 s st) (ds.take k)).wire)]) (fun k => ds.length - k) 0 (by omega) ?_ rfl ?_
  · exact zs
  · intro k hk
    have hcl0 := codesF_len (s := s) (nx := nx) (lp := lp) (ds.take k) (ln0 s st)
    rw [List.length_take] at hcl0
    have hdo := doneF_le (codesF s nx lp (ln0 s st) (ds.take k))
    by_cases hlt : k < ds.length
    · have hx := el_deed hlt
      have hln := runF_ok hv (ds.take k) (ln0_ok (nx := nx) hst) fun p hp => hd p (List.mem_of_mem_take hp)
      have c1 := impl_doH hv hln (by rw [List.length_take]; omega) (c := ds[k].1) (a := ds[k].2) (hd _ (List.getElem_mem hlt))
      have t1 := runF_take (s := s) (nx := nx) (lp := lp) (n := ln0 s st) hlt
      have t2 := codesF_take (s := s) (nx := nx) (lp := lp) (n := ln0 s st) hlt
      generalize runF s nx lp (ln0 s st) (ds.take k) = n at *
      generalize codesF s nx lp (ln0 s st) (ds.take k) = cs at *
      generalize doF s nx lp n ds[k].1 ds[k].2 = r at *
      have t3 : doneF (codesF s nx lp (ln0 s st) (ds.take (k + 1))) = doneF cs + if r.2 = 0 then 1 else 0 := by
        rw [t2, doneF_append]
        simp [doneF]
      generalize ds[k] = dk at *
      generalize doneF cs = dn at *
      unfold deedD at c1
      repeat (first | refine zcr ?_ | refine zv ?_)
      refine awp_region ?_
      repeat (first | refine zcr ?_ | refine zv ?_)
      refine awp_region ?_
      repeat (first | refine zcr ?_ | refine zv ?_)
      refine awp_freezeB 11 rfl rfl rfl ?_
      by_cases h0 : r.2 = 0
      · rw [if_pos h0] at t3
        repeat (first | refine zc ?_ | refine zv ?_)
        refine hcl [(600, 10000), (99, 20000)] [(10000, 600), (20000, 99)] c1 ?_
        repeat (first | refine zc ?_ | refine zv ?_)
        refine loop_n (k + 1) (by omega) ?_ ?_ (by omega)
        · rw [t3, Int.natCast_add]; exact zs
        · rw [t1]; rfl
      · rw [if_neg h0, Nat.add_zero] at t3
        repeat (first | refine zc ?_ | refine zv ?_)
        refine hcl [(600, 10000), (99, 20000)] [(10000, 600), (20000, 99)] c1 ?_
        repeat (first | refine zc ?_ | refine zv ?_)
        refine loop_n (k + 1) (by omega) ?_ ?_ (by omega)
        · rw [t3]; exact zs
        · rw [t1]; rfl
    · have : k = ds.length := by omega
      subst this
      repeat (first | refine zc ?_ | refine zv ?_)
      have htl : ds.take ds.length = ds := List.take_length
      (refine awp_ret ?_; (repeat (first | refine then_r ?_ | refine block_r ?_ | refine loop_r ?_)); refine u_rH [(600, 30000), (99, 30001)] ?_ ?_)
      · rw [htl]; rfl
      · rw [htl]; rfl
end Go.Proofs.YtampglcgipefnaaGreat
