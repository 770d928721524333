/- Lines in the laws' package. No condition. -/
import Derived.Test.YtffmlijngfhhaaaGreatDoorOm
namespace Go.Proofs.YtffmlijngfhhaaaGreatDoor
open Go
attribute [local irreducible] awp awpL awpQL awpQ awpM pWalk Qt AC thenQ blockQ loopQ OpTo
set_option linter.unusedVariables false
set_option linter.unusedSimpArgs false
set_option maxHeartbeats 2000000
attribute [local irreducible] HC
def skL (d : Dsk) (i j : Nat) : SV := .agg [.d (.int .i64 d.life), .own i, .d (.int .i64 d.sure), .own j]
def i64C (l : List Int) : Chunk := .arr 2 1 (l.map (.int .i64))
def laS (n : Ln) (a b c d e : Nat) : SV := .agg [.d (.int .i64 n.st), .d (.int .i64 n.life), .d (.int .i64 n.tk), .d (.int .i64 n.d.life), .own a, .d (.int .i64 n.d.sure), .own b, .d (.int .i64 n.sv.life), .own c, .d (.int .i64 n.sv.sure), .own d, .own e]
end Go.Proofs.YtffmlijngfhhaaaGreatDoor
namespace Go.Proofs.YtffmlijngfhhaaaGreatDoor
open Go
attribute [local irreducible] awp awpL awpQL awpQ awpM pWalk Qt AC thenQ blockQ loopQ OpTo
set_option linter.unusedVariables false
set_option linter.unusedSimpArgs false
set_option maxHeartbeats 2000000
attribute [local irreducible] HC
def lnZ : Ln := ⟨0, 0, 0, ⟨0, [], 0, []⟩, ⟨0, [], 0, []⟩, []⟩
theorem keep_set {f : SV -> SV} {X : List Nat} {id : Nat} {c : Chunk} (hm : memB id X = true) : ∀ h : Heap, keepH f X h = keepH f X (setH id c h)
  | [] => rfl
  | p :: h => by
    unfold setH
    cases e : Nat.beq p.1 id with
    | true =>
      have := Nat.eq_of_beq_eq_true e
      simp only [keepH, this, hm]
    | false =>
      simp only [keepH]
      rw [<- keep_set hm h]
def laD (s st : Int) (nx : List (List Int)) (lp : List Int) (ds : List (Int × Int)) : Ln × Nat × Int :=
  if askC s st nx lp ds = 0 then (runF s nx lp (ln0 s st) ds, doneF (codesF s nx lp (ln0 s st) ds), 0) else (lnZ, 0, askC s st nx lp ds)
theorem elsOk_pk : ∀ l : List Pk, elsOk 4 (l.map pkD) = true
  | [] => rfl
  | p :: l => by simp [elsOk, D.el, D.one, D.width, elsOk_pk l, pkD]
theorem impl_copiedH {d : Dsk} (h1 : d.ord.length <= 60) (h2 : d.bel.length <= 10) : HC Tryz.prog 42 [.d (dskD d)] [] (skL d 30000 30001) [(30000, i64C d.ord), (30001, i64C d.bel)] := by
  have e1 := impl_cloneH (ns := d.ord) (by omega)
  have e2 := impl_cloneH (ns := d.bel) (by omega)
  unfold dskD dskL skL i64C
  refine hc_intro tabIs _ Tryz.func42 rfl rfl Tryz.ntmps42 rfl rfl rfl ?_ fun w0 ok0 XM XA anc he0 hX0 => ?_
  . exact likeIn_nil
  repeat (first | refine zcn ?_ | refine zv ?_)
  refine u_m [(4, [500]), (9, [501]), (11, [2])] (.tk [500, 501] [0, 1, 2, 3, 5, 6, 7, 8] (.tk [] [4, 9, 10, 11] .done)) ?_
  repeat (first | refine zc ?_ | refine zv ?_)
  refine hclM [] [(30000, 500)] e1 ?_
  repeat (first | refine zc ?_ | refine zv ?_)
  refine hclM [] [(30000, 501)] e2 ?_
  repeat (first | refine zc ?_ | refine zv ?_)
  (refine zb ?_; refine u_rH [(500, 30000), (501, 30001)] ?_ ?_)
  . rfl
  . rfl
theorem impl_clonePH {xs : List Pk} (hn : xs.length <= 1048576) : HC Tryz.prog 43 [.d (.lst (xs.map pkD))] [] (.own 30000) [(30000, wrC xs)] := by
  have hle : (xs.map pkD).length = xs.length := by simp
  unfold wrC
  refine hc_intro tabIs _ Tryz.func43 rfl rfl Tryz.ntmps43 rfl rfl rfl ?_ fun w0 ok0 XM XA anc he0 hX0 => ?_
  . exact likeIn_nil
  repeat (first | refine zc ?_ | refine zv ?_)
  refine awpL_eqNil rfl rfl rfl rfl ?_
  intro b hb
  cases b
  . repeat (first | refine v_w (t := 5) ?_ | refine zc ?_ | refine u_w (t := 5) ?_ | refine zv ?_)
    (apply lto; (focus (apply wo_append; (iterate 14 exact rfl); exact elsOk_pk xs; (simp; omega))))
    repeat (first | refine zc ?_ | refine zv ?_)
    (refine zb ?_; refine u_rH [(5, 30000)] ?_ ?_)
    . rfl
    . rfl
  . have hn0 : xs = [] := List.map_eq_nil_iff.1 (hb rfl)
    subst hn0
    repeat (first | refine zc ?_ | refine zv ?_)
    refine awp_nilSlot 2 7777 93 4 rfl rfl rfl ?_
    (refine zb ?_; refine u_rH [(7777, 30000)] ?_ ?_)
    . rfl
    . rfl
theorem impl_LineAfterH {s st : Int} {nx : List (List Int)} {lp : List Int} {ds : List (Int × Int)} (h : RowsOk nx) (h2 : lp.length <= 9223372036854775807) (h3 : ds.length <= 1048576) :
    HC Tryz.prog 11 [.d (ltD s nx lp), .d (.int .i64 st), .d (deedsD ds)] [] (.tup [laS (laD s st nx lp ds).1 30000 30001 30002 30003 30004, .d (.int .i64 ((laD s st nx lp ds).2.1 : Nat)), .d (.int .i64 (laD s st nx lp ds).2.2)])
      [(30000, i64C (laD s st nx lp ds).1.d.ord), (30001, i64C (laD s st nx lp ds).1.d.bel), (30002, i64C (laD s st nx lp ds).1.sv.ord), (30003, i64C (laD s st nx lp ds).1.sv.bel), (30004, wrC (laD s st nx lp ds).1.wire)] := by
  have e1 := impl_deedsCode (s := s) (st := st) (nx := nx) (lp := lp) (ds := ds) h h2 h3
  unfold laD
  by_cases ha : askC s st nx lp ds = 0
  . rw [if_pos ha]
    obtain ⟨hv, hst, hd, hl⟩ := ask_ok ha
    have v := lv_of hv
    have hs := v.s1
    have c1 := impl_afterH hv hst hd hl
    have hln := runF_ok hv ds (ln0_ok (nx := nx) hst) hd
    rw [ha] at e1
    generalize doneF (codesF s nx lp (ln0 s st) ds) = dn at *
    generalize runF s nx lp (ln0 s st) ds = n at *
    have hw := hln.wl
    have c2 := impl_copiedH (d := n.d) hln.d.len (hln.d.bel_len (by omega))
    have c3 := impl_copiedH (d := n.sv) hln.sv.len (hln.sv.bel_len (by omega))
    have c4 := impl_clonePH (xs := n.wire) (by omega)
    unfold ltD deedsD wkB wrC dskD dskL skL laS i64C at *
    refine hc_intro tabIs _ Tryz.func11 rfl rfl Tryz.ntmps11 rfl rfl rfl ?_ fun w0 ok0 XM XA anc he0 hX0 => ?_
    . exact likeIn_nil
    repeat (first | refine zcn ?_ | refine zk (e := by exact e1) (n := ?_) | refine zv ?_)
    refine hcl [] [(30000, 600), (30001, 99)] c1 ?_
    repeat (first | refine zcn ?_ | refine zv ?_)
    refine awp_freeze 99 rfl rfl ?_
    repeat (first | refine zcn ?_ | refine zv ?_)
    refine awp_sub (s' := [(6, .ref 6 0), (10, .ref 600 0), (11, .d (.int .i64 (dn : Nat))), (12, .ref 12 0)]) (by exact zs) ?_
    refine awp_permTo [(6, .box [.d (.int .i64 0), .d (.int .i64 0), .d (.int .i64 0), .d (.int .i64 0), .d .nils, .d (.int .i64 0), .d .nils, .d (.int .i64 0), .d .nils, .d (.int .i64 0), .d .nils, .d .nils]), (12, .box [.d (.int .i64 n.st), .d (.int .i64 n.life), .d (.int .i64 n.tk), .d (.int .i64 n.d.life), .d (ints n.d.ord), .d (.int .i64 n.d.sure), .d (ints n.d.bel), .d (.int .i64 n.sv.life), .d (ints n.sv.ord), .d (.int .i64 n.sv.sure), .d (ints n.sv.bel), .d (.lst (n.wire.map pkD))]), (600, .box [.d (.int .i64 n.st), .d (.int .i64 n.life), .d (.int .i64 n.tk), .d (.int .i64 n.d.life), .d (ints n.d.ord), .d (.int .i64 n.d.sure), .d (ints n.d.bel), .d (.int .i64 n.sv.life), .d (ints n.sv.ord), .d (.int .i64 n.sv.sure), .d (ints n.sv.bel), .d (.lst (n.wire.map pkD)), .d (.int .i64 s), .d (rows nx), .d (ints lp)])] rfl ?_
    refine u_mJ [(5, [500, 501]), (11, [502, 503]), (17, [504]), (19, [12]), (21, [12]), (23, [12])] (.tk [500, 501, 502, 503, 504] [0, 1, 2, 3, 4, 6, 7, 8, 9, 10, 12, 13, 14, 15, 16] (.tk [] [5, 11, 17] (.tk [502, 503, 504] [18] (.tk [] [19] (.tk [502, 503, 504] [20] (.tk [] [21, 22, 23] .done))))))
      [(6, .ref 6 0), (11, .d (.int .i64 (dn : Nat))), (12, .ref 12 0)]
      [(6, .box [.d (.int .i64 0), .d (.int .i64 0), .d (.int .i64 0), .d (.int .i64 0), .d .nils, .d (.int .i64 0), .d .nils, .d (.int .i64 0), .d .nils, .d (.int .i64 0), .d .nils, .d .nils]),
       (12, .box [.d (.int .i64 n.st), .d (.int .i64 n.life), .d (.int .i64 n.tk), .d (.int .i64 n.d.life), .own 500, .d (.int .i64 n.d.sure), .own 501, .d (.int .i64 n.sv.life), .own 502, .d (.int .i64 n.sv.sure), .own 503, .own 504]),
       (500, .arr 2 1 (n.d.ord.map (.int .i64))), (501, .arr 2 1 (n.d.bel.map (.int .i64))), (502, .arr 2 1 (n.sv.ord.map (.int .i64))), (503, .arr 2 1 (n.sv.bel.map (.int .i64))), (504, .arr 93 4 (n.wire.map pkD)),
       (600, .box [.d (.int .i64 n.st), .d (.int .i64 n.life), .d (.int .i64 n.tk), .d (.int .i64 n.d.life), .d (ints n.d.ord), .d (.int .i64 n.d.sure), .d (ints n.d.bel), .d (.int .i64 n.sv.life), .d (ints n.sv.ord), .d (.int .i64 n.sv.sure), .d (ints n.sv.bel), .d (.lst (n.wire.map pkD)), .d (.int .i64 s), .d (rows nx), .d (ints lp)])] ?_ ?_
    . repeat (first | refine zc ?_ | refine zv ?_)
      refine hclM [] [(30000, 500), (30001, 501)] c2 ?_
      refine hclM [] [(30000, 502), (30001, 503)] c3 ?_
      refine hclM [] [(30000, 504)] c4 ?_
      refine v_s ?_
      apply v_on (ho := ?ho) (he := ?he)
      case ho => (intro rest; apply wo_storeAggS; (iterate 6 exact rfl))
      case he => exact keep_set rfl _
      refine v_s ?_
      apply v_on (ho := ?ho) (he := ?he)
      case ho => (intro rest; apply wo_storeAggS; (iterate 6 exact rfl))
      case he => exact keep_set rfl _
      refine v_s ?_
      apply v_on (ho := ?ho) (he := ?he)
      case ho => (intro rest; apply wo_store; (iterate 7 exact rfl))
      case he => exact keep_set rfl _
      refine m_nil ?_
      exact ⟨by exact zs, perm_of_sort rfl⟩
    repeat (first | refine zc ?_ | refine zv ?_)
    (refine zb ?_; refine u_rH [(500, 30000), (501, 30001), (502, 30002), (503, 30003), (504, 30004)] ?_ ?_)
    . rfl
    . rfl
  . rw [if_neg ha]
    generalize askC s st nx lp ds = c at *
    unfold ltD laS i64C wrC at *
    refine hc_intro tabIs _ Tryz.func11 rfl rfl Tryz.ntmps11 rfl rfl rfl ?_ fun w0 ok0 XM XA anc he0 hX0 => ?_
    . exact likeIn_nil
    repeat (first | refine zc ?_ | refine zk (e := by exact e1) (n := ?_) | refine zv ?_)
    refine awp_nilCell 6 4 500 2 1 rfl rfl rfl rfl rfl ?_
    refine awp_nilCell 6 6 501 2 1 rfl rfl rfl rfl rfl ?_
    refine awp_nilCell 6 8 502 2 1 rfl rfl rfl rfl rfl ?_
    refine awp_nilCell 6 10 503 2 1 rfl rfl rfl rfl rfl ?_
    refine awp_nilCell 6 11 504 93 4 rfl rfl rfl rfl rfl ?_
    (refine zb ?_; refine u_rH [(500, 30000), (501, 30001), (502, 30002), (503, 30003), (504, 30004)] ?_ ?_)
    . rfl
    . rfl
end Go.Proofs.YtffmlijngfhhaaaGreatDoor
namespace Go.Proofs.YtffmlijngfhhaaaGreatDoor
open Go
attribute [local irreducible] awp awpL awpQL awpQ awpM pWalk Qt AC thenQ blockQ loopQ OpTo
set_option linter.unusedVariables false
set_option linter.unusedSimpArgs false
set_option maxHeartbeats 2000000
attribute [local irreducible] HC
end Go.Proofs.YtffmlijngfhhaaaGreatDoor
