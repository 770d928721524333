/- Plain facts of a machine's mutants. No condition. -/
import Derived.Test.YtckpadnjldebaaaGreatMa
import Derived.Test.YtckpadnjldebaaaGreatPa
import Derived.Test.YtckpadnjldebaaaGreatFwS
namespace Go.Proofs.YtckpadnjldebaaaGreat
open Go
attribute [local irreducible] awp awpL awpQL awpQ awpM pWalk Qt AC thenQ blockQ loopQ OpTo
set_option linter.unusedVariables false
set_option linter.unusedSimpArgs false
set_option maxHeartbeats 2000000
attribute [local irreducible] HC
end Go.Proofs.YtckpadnjldebaaaGreat
namespace Go.Proofs.YtckpadnjldebaaaGreat
open Go
attribute [local irreducible] awp awpL awpQL awpQ awpM pWalk Qt AC thenQ blockQ loopQ OpTo
set_option linter.unusedVariables false
set_option linter.unusedSimpArgs false
set_option maxHeartbeats 2000000
attribute [local irreducible] HC
theorem elsOk_ints : ∀ ns : List Int, elsOk 1 (ns.map (D.int .i64)) = true
  | [] => rfl
  | n :: ns => by simp [elsOk, D.el, D.one, D.width, elsOk_ints ns]
theorem rws_take {nss : List (List Int)} {k : Nat} (hk : k < nss.length) : rws (nss.take (k + 1)) = rws (nss.take k) ++ [nss[k].map (.int .i64)] := by
  unfold rws
  rw [List.take_succ_eq_append_getElem hk, List.map_append]
  rfl
end Go.Proofs.YtckpadnjldebaaaGreat
namespace Go.Proofs.YtckpadnjldebaaaGreat
open Go
attribute [local irreducible] awp awpL awpQL awpQ awpM pWalk Qt AC thenQ blockQ loopQ OpTo
set_option linter.unusedVariables false
set_option linter.unusedSimpArgs false
set_option maxHeartbeats 2000000
attribute [local irreducible] HC
open Go.RowKit (Below)
attribute [local semireducible] Qt awpL in
theorem awpL_eqNil {cx : Cx} {ops : Array Oper} {rest : List Oper} {s : Slots} {h : Heap} {Q : Exit -> Slots -> Heap -> Prop} {t ty T T' : Nat} {pos : String} {af : Array Edge} {x : Operand} {tr : TR} {xs : List D} (hx : opv (lk s) x = .d (.lst xs)) (ht : tget cx.T T = some tr) (hsl : tr.isSl = true) (hd : Nat.blt t cx.nt = true)
    (hn : ∀ b : Bool, (b = true -> xs = []) -> awpL cx ops rest ((t, .d (.bool b)) :: s) h Q) : awpL cx ops (⟨some t, .binOp .eql T x (.const (.slice none 0 0)) T', ty, pos, af, none⟩ :: rest) s h Q := fun a w hr => by
  obtain ⟨σ, hr'⟩ := hr
  have h1 := rep_eval hr' x
  rw [hx] at h1
  obtain ⟨d, i, hdd, hi, _, _, _, hsl', _⟩ := tr_facts (tget_ok cx.tab ht)
  have hdt := hsl' hsl
  subst hdt
  have hnil : a.eval (.const (.slice none 0 0)) = .slice none 0 0 := rfl
  have hin : ∀ (d : Nat) ad n c, (Op.equalIn (d + 1) T (.slice ad n c) (.slice none 0 0)).run cx.P w = .ok ad.isNone w := fun d ad n c => by
    unfold Op.equalIn
    cases ad <;> simp [run_underlying hdd]
  have run : ∀ ad n c, (binOp .eql T (.slice ad n c) (.slice none 0 0)).run cx.P w = .ok (.bool ad.isNone) w := fun ad n c => by
    show ((Op.equalIn (9999 + 1) T (.slice ad n c) (.slice none 0 0)) >>= fun b => pure (Value.bool b)).run cx.P w = _
    rw [Sem.run_bind, hin]
    rfl
  have key : ∃ b : Bool, (b = true -> xs = []) /\ (binOp .eql T (a.eval x) (.slice none 0 0)).run cx.P w = .ok (.bool b) w := by
    have h1' : RepD (okf cx σ h) w (a.eval x) (.lst xs) := h1
    generalize a.eval x = v at h1'
    cases h1' with
    | nil0 => exact ⟨true, fun _ => rfl, run _ _ _⟩
    | emp ad cap => exact ⟨false, (fun e => absurd e (by simp)), run _ _ _⟩
    | lst => exact ⟨false, (fun e => absurd e (by simp)), run _ _ _⟩
  obtain ⟨b, hb, hrun⟩ := key
  have hex : (execOp a.eval ⟨some t, .binOp .eql T x (.const (.slice none 0 0)) T', ty, pos, af, none⟩).run cx.P w = .ok (.value (.bool b)) w := by
    have e3 : (eqGuard .eql T x (.const (.slice none 0 0)) (a.eval x) (.slice none 0 0)).run cx.P w = .ok () w := by
      unfold eqGuard
      cases a.eval x <;> simp
    simp only [execOp, hnil, Sem.run_bind, e3, hrun, Result.andThen_ok, Sem.run_pure]
  unfold wpList
  rw [if_pos (by simp [Region.wanted])]
  refine .inl ?_
  unfold Oper.wp
  rw [hex]
  exact hn b hb _ _ (put_lay hr' hd (RepD.bool b))
theorem impl_cloneH {ns : List Int} (hn : ns.length <= 1048576) : HC Tryz.prog 131 [.d (ints ns)] [] (.own 30000) [(30000, .arr 2 1 (ns.map (.int .i64)))] := by
  have hel := elsOk_ints ns
  have hle : (ns.map (D.int .i64)).length = ns.length := by simp
  refine hc_intro tabIs _ Tryz.func131 rfl rfl Tryz.ntmps131 rfl rfl rfl ?_ fun w0 ok0 XM XA anc he0 hX0 => ?_
  . exact likeIn_nil
  repeat (first | refine zc ?_ | refine zv ?_)
  refine awpL_eqNil rfl rfl rfl rfl ?_
  intro b hb
  cases b
  . repeat (first | refine v_w (t := 5) ?_ | refine zc ?_ | refine u_w (t := 5) ?_ | refine zv ?_)
    (apply lto; (focus (apply wo_append; (iterate 14 exact rfl); exact elsOk_ints ns; (simp; omega))))
    repeat (first | refine zc ?_ | refine zv ?_)
    (refine zb ?_; refine u_rH [(5, 30000)] ?_ ?_)
    . rfl
    . rfl
  . have hn0 : ns = [] := List.map_eq_nil_iff.1 (hb rfl)
    subst hn0
    repeat (first | refine zc ?_ | refine zv ?_)
    refine awp_nilSlot 2 7777 2 1 rfl rfl rfl ?_
    (refine zb ?_; refine u_rH [(7777, 30000)] ?_ ?_)
    . rfl
    . rfl
end Go.Proofs.YtckpadnjldebaaaGreat
