/- Plain facts of a machine's mutants. No condition. -/
import Derived.Test.YtffmlijngfhhaaaGreatDoorMa
import Derived.Test.YtffmlijngfhhaaaGreatDoorPa
import Derived.Test.YtffmlijngfhhaaaGreatDoorFwS
namespace Go.Proofs.YtffmlijngfhhaaaGreatDoor
open Go
attribute [local irreducible] awp awpL awpQL awpQ awpM pWalk Qt AC thenQ blockQ loopQ OpTo
set_option linter.unusedVariables false
set_option linter.unusedSimpArgs false
set_option maxHeartbeats 2000000
attribute [local irreducible] HC

theorem rowsOk_tbl {s hi : Int} {xs : List (List Int)} (h : Tbl s hi xs) (hs : s ≤ 10) (hh : hi ≤ 10) (hn : xs.length ≤ 3) : RowsOk xs :=
  ⟨fun ns hm => by
    have := h ns hm
    exact ⟨fun n hn => by have := this.2 n hn; unfold I64; omega, by omega⟩, by omega⟩
theorem MV.rnx {s o : Int} {nx ou : List (List Int)} (m : MV s o nx ou) : RowsOk nx := rowsOk_tbl m.nx m.s1.2 m.s1.2 m.n1.2
theorem MV.rou {s o : Int} {nx ou : List (List Int)} (m : MV s o nx ou) : RowsOk ou := rowsOk_tbl m.ou m.s1.2 (by have := m.o1; omega) (by rw [m.eq]; exact m.n1.2)

end Go.Proofs.YtffmlijngfhhaaaGreatDoor

/-! Contracts: copies of rows, and the reference's mutant. No condition. -/
namespace Go.Proofs.YtffmlijngfhhaaaGreatDoor
open Go
attribute [local irreducible] awp awpL awpQL awpQ awpM pWalk Qt AC thenQ blockQ loopQ OpTo
set_option linter.unusedVariables false
set_option linter.unusedSimpArgs false
set_option maxHeartbeats 2000000
attribute [local irreducible] HC

theorem elsOk_ints : ∀ ns : List Int, elsOk 1 (ns.map (D.int .i64)) = true
  | [] => rfl
  | n :: ns => by simp [elsOk, D.el, D.one, D.width, elsOk_ints ns]

theorem rws_take {nss : List (List Int)} {k : Nat} (hk : k < nss.length) : rws (nss.take (k + 1)) = rws (nss.take k) ++ [nss[k].map (.int .i64)] := by
  unfold rws
  rw [List.take_succ_eq_append_getElem hk, List.map_append]
  rfl

theorem spec_l00Same {a b : List Int} (h1 : a.length ≤ 9223372036854775807) (h2 : b.length ≤ 9223372036854775807) : AC Tryz.prog 126 [ints a, ints b] (.bool (decide (a = b))) := by
  have hla : (List.map (D.int IntKind.i64) a).length = a.length := by simp
  have hlb : (List.map (D.int IntKind.i64) b).length = b.length := by simp
  by_cases hl : a.length = b.length
  · refine ac_intro tabIs _ Tryz.func126 rfl rfl Tryz.ntmps126 rfl rfl fun w0 ok0 he0 => ?_
    repeat (first | refine awp_seq ?_ | refine then_n ?_ | refine then_r ?_ | refine then_x ?_ | refine block_n ?_ | refine block_r ?_ | refine block_x ?_ | refine u_y ?_ | refine loop_r ?_ | refine loop_x ?_ | refine awp_region ?_ | refine awpL_nil ?_ | refine awpQL_nil ?_ | refine awp_block ?_ | refine awp_skip ?_ | refine awp_exit ?_ | refine awp_label ?_ | refine u_dT ?_ | refine u_d ?_ | refine u_l ?_ | refine u_o ?_ | refine u_q ?_ | refine u_lr ?_ | refine u_qr ?_ | refine u_ls ?_ | refine u_qs ?_ | refine u_t ?_ | refine u_f ?_ | refine v_s ?_ | refine v_o ?_ | refine v_on ?_ | refine v_og ?_ | refine v_q ?_ | refine v_sr ?_ | refine v_k ?_ | refine m_nil ?_)
    refine awp_loop (fun k : Nat => k ≤ a.length ∧ a.take k = b.take k) (fun k => [(0, .d (ints a)), (1, .d (ints b)), (5, .d (.int .i64 k))]) (fun _ => []) (fun k => a.length - k) 0 ⟨by omega, rfl⟩ ?_ rfl ?_
    · ((repeat (first | exact trivial | (refine ⟨?_, ?_⟩; (focus (first | rfl | (simp [lk, argsS, args0]; done) | (simp [lk, argsS, args0]; omega)))))))
    · rintro k ⟨hk, ht⟩
      by_cases hlt : k < a.length
      · have hlt2 : k < b.length := by omega
        have ea := el_int hlt
        have eb := el_int hlt2
        by_cases hc : a[k] = b[k]
        · have hs := eq_step hlt hlt2 ht hc
          repeat (first | refine awp_seq ?_ | refine then_n ?_ | refine then_r ?_ | refine then_x ?_ | refine block_n ?_ | refine block_r ?_ | refine block_x ?_ | refine u_y ?_ | refine loop_r ?_ | refine loop_x ?_ | refine awp_region ?_ | refine awpL_nil ?_ | refine awpQL_nil ?_ | refine awp_block ?_ | refine awp_skip ?_ | refine awp_exit ?_ | refine awp_label ?_ | refine u_dT ?_ | refine u_d ?_ | refine u_l ?_ | refine u_o ?_ | refine u_q ?_ | refine u_lr ?_ | refine u_qr ?_ | refine u_ls ?_ | refine u_qs ?_ | refine u_t ?_ | refine u_f ?_ | refine v_s ?_ | refine v_o ?_ | refine v_on ?_ | refine v_og ?_ | refine v_q ?_ | refine v_sr ?_ | refine v_k ?_ | refine m_nil ?_)
          refine loop_n (k + 1) ⟨by omega, hs⟩ ?_ rfl (by omega)
          ((repeat (first | exact trivial | (refine ⟨?_, ?_⟩; (focus (first | rfl | (simp [lk, argsS, args0]; done) | (simp [lk, argsS, args0]; omega)))))))
        · repeat (first | refine awp_seq ?_ | refine then_n ?_ | refine then_r ?_ | refine then_x ?_ | refine block_n ?_ | refine block_r ?_ | refine block_x ?_ | refine u_y ?_ | refine loop_r ?_ | refine loop_x ?_ | refine awp_region ?_ | refine awpL_nil ?_ | refine awpQL_nil ?_ | refine awp_block ?_ | refine awp_skip ?_ | refine awp_exit ?_ | refine awp_label ?_ | refine u_dT ?_ | refine u_d ?_ | refine u_l ?_ | refine u_o ?_ | refine u_q ?_ | refine u_lr ?_ | refine u_qr ?_ | refine u_ls ?_ | refine u_qs ?_ | refine u_t ?_ | refine u_f ?_ | refine v_s ?_ | refine v_o ?_ | refine v_on ?_ | refine v_og ?_ | refine v_q ?_ | refine v_sr ?_ | refine v_k ?_ | refine m_nil ?_)
          (refine awp_ret ?_; (repeat (first | refine then_r ?_ | refine block_r ?_ | refine loop_r ?_)); apply ret_ok (.inr rfl); (focus exact rfl))
          have : ¬ a = b := fun e => hc (by subst e; rfl)
          simp [this]
      · have hk' : k = a.length := by omega
        subst hk'
        rw [List.take_length, hl, List.take_length] at ht
        repeat (first | refine awp_seq ?_ | refine then_n ?_ | refine then_r ?_ | refine then_x ?_ | refine block_n ?_ | refine block_r ?_ | refine block_x ?_ | refine u_y ?_ | refine loop_r ?_ | refine loop_x ?_ | refine awp_region ?_ | refine awpL_nil ?_ | refine awpQL_nil ?_ | refine awp_block ?_ | refine awp_skip ?_ | refine awp_exit ?_ | refine awp_label ?_ | refine u_dT ?_ | refine u_d ?_ | refine u_l ?_ | refine u_o ?_ | refine u_q ?_ | refine u_lr ?_ | refine u_qr ?_ | refine u_ls ?_ | refine u_qs ?_ | refine u_t ?_ | refine u_f ?_ | refine v_s ?_ | refine v_o ?_ | refine v_on ?_ | refine v_og ?_ | refine v_q ?_ | refine v_sr ?_ | refine v_k ?_ | refine m_nil ?_)
        (refine awp_ret ?_; (repeat (first | refine then_r ?_ | refine block_r ?_ | refine loop_r ?_)); apply ret_ok (.inr rfl); (focus exact rfl))
        simp [ht]
  · refine ac_intro tabIs _ Tryz.func126 rfl rfl Tryz.ntmps126 rfl rfl fun w0 ok0 he0 => ?_
    repeat (first | refine awp_seq ?_ | refine then_n ?_ | refine then_r ?_ | refine then_x ?_ | refine block_n ?_ | refine block_r ?_ | refine block_x ?_ | refine u_y ?_ | refine loop_r ?_ | refine loop_x ?_ | refine awp_region ?_ | refine awpL_nil ?_ | refine awpQL_nil ?_ | refine awp_block ?_ | refine awp_skip ?_ | refine awp_exit ?_ | refine awp_label ?_ | refine u_dT ?_ | refine u_d ?_ | refine u_l ?_ | refine u_o ?_ | refine u_q ?_ | refine u_lr ?_ | refine u_qr ?_ | refine u_ls ?_ | refine u_qs ?_ | refine u_t ?_ | refine u_f ?_ | refine v_s ?_ | refine v_o ?_ | refine v_on ?_ | refine v_og ?_ | refine v_q ?_ | refine v_sr ?_ | refine v_k ?_ | refine m_nil ?_)
    (refine awp_ret ?_; (repeat (first | refine then_r ?_ | refine block_r ?_ | refine loop_r ?_)); apply ret_ok (.inr rfl); (focus exact rfl))
    have : ¬ a = b := fun e => hl (by rw [e])
    simp [this]
end Go.Proofs.YtffmlijngfhhaaaGreatDoor

/-! A slice held against nil; the program's copy of a row. No condition. -/
namespace Go.Proofs.YtffmlijngfhhaaaGreatDoor
open Go
attribute [local irreducible] awp awpL awpQL awpQ awpM pWalk Qt AC thenQ blockQ loopQ OpTo
set_option linter.unusedVariables false
set_option linter.unusedSimpArgs false
set_option maxHeartbeats 2000000
attribute [local irreducible] HC
open Go.RowKit (Below)

/-! ### A slice held against nil -/
attribute [local semireducible] Qt awpL in
/-- Which answer comes is not known where the slice is empty. -/
theorem awpL_eqNil {cx : Cx} {ops : Array Oper} {rest : List Oper} {s : Slots} {h : Heap} {Q : Exit → Slots → Heap → Prop} {t ty T T' : Nat} {pos : String} {af : Array Edge} {x : Operand} {tr : TR} {xs : List D} (hx : opv (lk s) x = .d (.lst xs)) (ht : tget cx.T T = some tr) (hsl : tr.isSl = true) (hd : Nat.blt t cx.nt = true)
    (hn : ∀ b : Bool, (b = true → xs = []) → awpL cx ops rest ((t, .d (.bool b)) :: s) h Q) : awpL cx ops (⟨some t, .binOp .eql T x (.const (.slice none 0 0)) T', ty, pos, af, none⟩ :: rest) s h Q := fun a w hr => by
  obtain ⟨σ, hr'⟩ := hr
  have h1 := rep_eval hr' x
  rw [hx] at h1
  obtain ⟨d, i, hdd, hi, _, _, _, hsl', _⟩ := tr_facts (tget_ok cx.tab ht)
  have hdt := hsl' hsl
  subst hdt
  have hnil : a.eval (.const (.slice none 0 0)) = .slice none 0 0 := rfl
  have hin : ∀ (d : Nat) ad n c, (Op.equalIn (d + 1) T (.slice ad n c) (.slice none 0 0)).run cx.P w = .ok ad.isNone w := fun d ad n c => by
    unfold Op.equalIn
    cases ad <;> simp [run_underlying hdd]
  have run : ∀ ad n c, (binOp .eql T (.slice ad n c) (.slice none 0 0)).run cx.P w = .ok (.bool ad.isNone) w := fun ad n c => by
    show ((Op.equalIn (9999 + 1) T (.slice ad n c) (.slice none 0 0)) >>= fun b => pure (Value.bool b)).run cx.P w = _
    rw [Sem.run_bind, hin]
    rfl
  have key : ∃ b : Bool, (b = true → xs = []) ∧ (binOp .eql T (a.eval x) (.slice none 0 0)).run cx.P w = .ok (.bool b) w := by
    have h1' : RepD (okf cx σ h) w (a.eval x) (.lst xs) := h1
    generalize a.eval x = v at h1'
    cases h1' with
    | nil0 => exact ⟨true, fun _ => rfl, run _ _ _⟩
    | emp ad cap => exact ⟨false, (fun e => absurd e (by simp)), run _ _ _⟩
    | lst => exact ⟨false, (fun e => absurd e (by simp)), run _ _ _⟩
  obtain ⟨b, hb, hrun⟩ := key
  have hex : (execOp a.eval ⟨some t, .binOp .eql T x (.const (.slice none 0 0)) T', ty, pos, af, none⟩).run cx.P w = .ok (.value (.bool b)) w := by
    have e3 : (eqGuard .eql T x (.const (.slice none 0 0)) (a.eval x) (.slice none 0 0)).run cx.P w = .ok () w := by
      unfold eqGuard
      cases a.eval x <;> simp
    simp only [execOp, hnil, Sem.run_bind, e3, hrun, Result.andThen_ok, Sem.run_pure]
  unfold wpList
  rw [if_pos (by simp [Region.wanted])]
  refine .inl ?_
  unfold Oper.wp
  rw [hex]
  exact hn b hb _ _ (put_lay hr' hd (RepD.bool b))

theorem impl_cloneH {ns : List Int} (hn : ns.length ≤ 1048576) : HC Tryz.prog 110 [.d (ints ns)] [] (.own 30000) [(30000, .arr 2 1 (ns.map (.int .i64)))] := by
  have hel := elsOk_ints ns
  have hle : (ns.map (D.int .i64)).length = ns.length := by simp
  refine hc_intro tabIs _ Tryz.func110 rfl rfl Tryz.ntmps110 rfl rfl rfl ?_ fun w0 ok0 XM XA anc he0 hX0 => ?_
  · exact likeIn_nil
  repeat (first | refine awp_seq ?_ | refine then_n ?_ | refine then_r ?_ | refine then_x ?_ | refine block_n ?_ | refine block_r ?_ | refine block_x ?_ | refine u_y ?_ | refine loop_r ?_ | refine loop_x ?_ | refine awp_region ?_ | refine awpL_nil ?_ | refine awpQL_nil ?_ | refine awp_block ?_ | refine awp_skip ?_ | refine awp_exit ?_ | refine awp_label ?_ | refine u_dT ?_ | refine u_d ?_ | refine u_l ?_ | refine u_o ?_ | refine u_q ?_ | refine u_lr ?_ | refine u_qr ?_ | refine u_ls ?_ | refine u_qs ?_ | refine u_t ?_ | refine u_f ?_ | refine v_s ?_ | refine v_o ?_ | refine v_on ?_ | refine v_og ?_ | refine v_q ?_ | refine v_sr ?_ | refine v_k ?_ | refine m_nil ?_)
  refine awpL_eqNil rfl rfl rfl rfl ?_
  intro b hb
  cases b
  · repeat (first | refine v_w (t := 5) ?_ | refine awp_seq ?_ | refine then_n ?_ | refine then_r ?_ | refine then_x ?_ | refine block_n ?_ | refine block_r ?_ | refine block_x ?_ | refine u_y ?_ | refine loop_r ?_ | refine loop_x ?_ | refine awp_region ?_ | refine awpL_nil ?_ | refine awpQL_nil ?_ | refine awp_block ?_ | refine awp_skip ?_ | refine awp_exit ?_ | refine awp_label ?_ | refine u_dT ?_ | refine u_d ?_ | refine u_w (t := 5) ?_ | refine u_l ?_ | refine u_o ?_ | refine u_q ?_ | refine u_lr ?_ | refine u_qr ?_ | refine u_ls ?_ | refine u_qs ?_ | refine u_t ?_ | refine u_f ?_ | refine v_s ?_ | refine v_o ?_ | refine v_on ?_ | refine v_og ?_ | refine v_q ?_ | refine v_sr ?_ | refine v_k ?_ | refine m_nil ?_)
    (apply lto; (focus (apply wo_append; (iterate 14 exact rfl); exact elsOk_ints ns; (simp; omega))))
    repeat (first | refine awp_seq ?_ | refine then_n ?_ | refine then_r ?_ | refine then_x ?_ | refine block_n ?_ | refine block_r ?_ | refine block_x ?_ | refine u_y ?_ | refine loop_r ?_ | refine loop_x ?_ | refine awp_region ?_ | refine awpL_nil ?_ | refine awpQL_nil ?_ | refine awp_block ?_ | refine awp_skip ?_ | refine awp_exit ?_ | refine awp_label ?_ | refine u_dT ?_ | refine u_d ?_ | refine u_l ?_ | refine u_o ?_ | refine u_q ?_ | refine u_lr ?_ | refine u_qr ?_ | refine u_ls ?_ | refine u_qs ?_ | refine u_t ?_ | refine u_f ?_ | refine v_s ?_ | refine v_o ?_ | refine v_on ?_ | refine v_og ?_ | refine v_q ?_ | refine v_sr ?_ | refine v_k ?_ | refine m_nil ?_)
    (refine awp_ret ?_; (repeat (first | refine then_r ?_ | refine block_r ?_ | refine loop_r ?_)); refine u_rH [(5, 30000)] ?_ ?_)
    · rfl
    · rfl
  · have hn0 : ns = [] := List.map_eq_nil_iff.1 (hb rfl)
    subst hn0
    repeat (first | refine awp_seq ?_ | refine then_n ?_ | refine then_r ?_ | refine then_x ?_ | refine block_n ?_ | refine block_r ?_ | refine block_x ?_ | refine u_y ?_ | refine loop_r ?_ | refine loop_x ?_ | refine awp_region ?_ | refine awpL_nil ?_ | refine awpQL_nil ?_ | refine awp_block ?_ | refine awp_skip ?_ | refine awp_exit ?_ | refine awp_label ?_ | refine u_dT ?_ | refine u_d ?_ | refine u_l ?_ | refine u_o ?_ | refine u_q ?_ | refine u_lr ?_ | refine u_qr ?_ | refine u_ls ?_ | refine u_qs ?_ | refine u_t ?_ | refine u_f ?_ | refine v_s ?_ | refine v_o ?_ | refine v_on ?_ | refine v_og ?_ | refine v_q ?_ | refine v_sr ?_ | refine v_k ?_ | refine m_nil ?_)
    refine awp_nilSlot 2 7777 2 1 rfl rfl rfl ?_
    (refine awp_ret ?_; (repeat (first | refine then_r ?_ | refine block_r ?_ | refine loop_r ?_)); refine u_rH [(7777, 30000)] ?_ ?_)
    · rfl
    · rfl

end Go.Proofs.YtffmlijngfhhaaaGreatDoor
