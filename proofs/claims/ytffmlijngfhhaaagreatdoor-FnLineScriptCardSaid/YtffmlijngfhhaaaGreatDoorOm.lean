/- ToldAfter, in the reference and in the program, and its law. No condition. -/
import Derived.Test.YtffmlijngfhhaaaGreatDoorOj
import Derived.Test.YtffmlijngfhhaaaGreatDoorFwW
namespace Go.Proofs.YtffmlijngfhhaaaGreatDoor
open Go
attribute [local irreducible] awp awpL awpQL awpQ awpM pWalk Qt AC thenQ blockQ loopQ OpTo
set_option linter.unusedVariables false
set_option linter.unusedSimpArgs false
set_option maxHeartbeats 2000000
attribute [local irreducible] HC
def tlD (s st : Int) (nx : List (List Int)) (lp : List Int) (ds : List (Int × Int)) : List Int × Bool × Int :=
  if askC s st nx lp ds = 0 then (toldD nx (runF s nx lp (ln0 s st) ds).d, decide ((runF s nx lp (ln0 s st) ds).d.life = (runF s nx lp (ln0 s st) ds).life), 0) else ([], false, askC s st nx lp ds)
theorem impl_ToldAfterH {s st : Int} {nx : List (List Int)} {lp : List Int} {ds : List (Int × Int)} (h : RowsOk nx) (h2 : lp.length <= 9223372036854775807) (h3 : ds.length <= 1048576) :
    HC Tryz.prog 35 [.d (ltD s nx lp), .d (.int .i64 st), .d (deedsD ds)] [] (.tup [.own 30000, .d (.bool (tlD s st nx lp ds).2.1), .d (.int .i64 (tlD s st nx lp ds).2.2)]) [(30000, .arr 2 1 ((tlD s st nx lp ds).1.map (.int .i64)))] := by
  have e1 := impl_deedsCode (s := s) (st := st) (nx := nx) (lp := lp) (ds := ds) h h2 h3
  unfold tlD
  by_cases ha : askC s st nx lp ds = 0
  . rw [if_pos ha]
    obtain ⟨hv, hst, hd, hl⟩ := ask_ok ha
    have v := lv_of hv
    have c1 := impl_afterH hv hst hd hl
    have hln := runF_ok hv ds (ln0_ok (nx := nx) hst) hd
    have c2 := impl_toldH (n := runF s nx lp (ln0 s st) ds) v hln.d
    rw [ha] at e1
    generalize codesF s nx lp (ln0 s st) ds = cs at *
    generalize runF s nx lp (ln0 s st) ds = n at *
    unfold ltD deedsD wkB wrC wkL lnL at *
    refine hc_intro tabIs _ Tryz.func35 rfl rfl Tryz.ntmps35 rfl rfl rfl ?_ fun w0 ok0 XM XA anc he0 hX0 => ?_
    . exact likeIn_nil
    repeat (first | refine zcn ?_ | refine zk (e := by exact e1) (n := ?_) | refine zv ?_)
    refine hcl [] [(30000, 600), (30001, 99)] c1 ?_
    repeat (first | refine zcn ?_ | refine zv ?_)
    refine awp_freeze 99 rfl rfl ?_
    refine awp_freezeB 600 rfl rfl rfl ?_
    refine u_m [(1, [500])] (.tk [500] [0, 2, 3, 4, 5, 6, 7, 8, 9, 10, 11, 12, 13] (.tk [] [1, 14, 15, 16] .done)) ?_
    repeat (first | refine zc ?_ | refine zv ?_)
    refine hclM [] [(30000, 500)] c2 ?_
    repeat (first | refine zc ?_ | refine zv ?_)
    (refine zb ?_; refine u_rH [(500, 30000)] ?_ ?_)
    . rfl
    . rfl
  . rw [if_neg ha]
    generalize askC s st nx lp ds = c at *
    unfold ltD at *
    refine hc_intro tabIs _ Tryz.func35 rfl rfl Tryz.ntmps35 rfl rfl rfl ?_ fun w0 ok0 XM XA anc he0 hX0 => ?_
    . exact likeIn_nil
    repeat (first | refine zc ?_ | refine zk (e := by exact e1) (n := ?_) | refine zv ?_)
    refine awp_nilSlot 6 7777 2 1 rfl rfl rfl ?_
    (refine zb ?_; refine u_rH [(7777, 30000)] ?_ ?_)
    . rfl
    . rfl
end Go.Proofs.YtffmlijngfhhaaaGreatDoor
