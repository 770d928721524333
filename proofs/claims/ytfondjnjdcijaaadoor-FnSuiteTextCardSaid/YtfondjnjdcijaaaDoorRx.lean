/- Texts cut into lines and read as words: the reference's l01Split, both ReadWords. No condition but bounds. -/
import Derived.Test.YtfondjnjdcijaaaDoorRw
import Derived.Test.YtfondjnjdcijaaaDoorSp
namespace Go.Proofs.YtfondjnjdcijaaaDoor
open Go
attribute [local irreducible] awp awpL awpQL awpQ awpM pWalk Qt AC thenQ blockQ loopQ OpTo
set_option linter.unusedVariables false
set_option linter.unusedSimpArgs false
set_option maxHeartbeats 2000000
attribute [local irreducible] HC

/-! ### Words -/
def chI (c : UInt8) : Int := (c.toNat : Int) - 97
def chk (c : UInt8) : Bool := decide (97 ≤ (c.toNat : Int)) && decide ((c.toNat : Int) ≤ 99)
/-- The word with a text. -/
def rwS (l : List UInt8) : Option (List Int) := if l = [45] then some [] else if l.all chk = true ∧ 1 ≤ l.length ∧ l.length ≤ 400 then some (l.map chI) else none
def rwd (l : List UInt8) : List Int := if l = [45] then [] else l.map chI
def rwE (l : List UInt8) : Int := if (rwS l).isSome then 0 else 5
theorem rwS_len {l : List UInt8} {w : List Int} (h : rwS l = some w) : w.length ≤ 400 := by
  unfold rwS at h
  split at h
  · cases h; simp
  · split at h
    · rename_i h2
      cases h
      simp
      exact h2.2.2
    · cases h
theorem chB_chI {c : UInt8} : chB (chI c) = c := by
  unfold chB chI
  rw [show (97 : Int) + ((c.toNat : Int) - 97) = (c.toNat : Int) by omega]
  simp
theorem rwS_of {l : List UInt8} (hn : l ≠ []) : wtx (rwd l) = l ↔ rwS l = some (rwd l) := by
  unfold rwS rwd
  by_cases h45 : l = [45]
  · subst h45
    simp
    rfl
  · rw [if_neg h45, if_neg h45]
    have hok : wOkT (l.map chI) = true ↔ l.all chk = true ∧ l.length ≤ 400 := by
      unfold wOkT allIn
      rw [Bool.and_eq_true, decide_eq_true_eq, List.all_map, List.length_map]
      have : l.all ((fun x => inB x 0 2) ∘ chI) = l.all chk := by
        congr 1
        funext c
        refine Bool.eq_iff_iff.2 ?_
        simp only [Function.comp, inB, chk, Bool.and_eq_true, decide_eq_true_eq]
        unfold chI
        omega
      rw [this]
      constructor
      · rintro ⟨a, b⟩; exact ⟨b, by omega⟩
      · rintro ⟨a, b⟩; exact ⟨by omega, a⟩
    have h1 : 1 ≤ l.length := List.length_pos_iff.2 hn
    have hmn : l.map chI ≠ [] := by simpa using hn
    unfold wtx
    by_cases hw : wOkT (l.map chI) = true
    · rw [if_pos hw, if_neg hmn, if_pos ⟨(hok.1 hw).1, h1, (hok.1 hw).2⟩]
      simp only [List.map_map, true_iff]
      constructor
      · intro _; trivial
      · intro _
        have : (chB ∘ chI) = id := funext fun c => chB_chI
        rw [this]; simp
    · rw [if_neg hw, if_neg (fun h => hw (hok.2 ⟨h.1, h.2.2⟩))]
      constructor
      · intro h; exact absurd h.symm hn
      · intro h; cases h
theorem rwS_nil : rwS [] = none := by decide
theorem rwS_eq {l : List UInt8} {w : List Int} (h : rwS l = some w) : w = rwd l := by
  unfold rwS at h
  unfold rwd
  split at h
  · rename_i e; rw [if_pos e]; exact (Option.some.inj h).symm
  · rename_i e
    rw [if_neg e]
    split at h
    · exact (Option.some.inj h).symm
    · cases h
theorem rwS_wtx {l : List UInt8} {w : List Int} (h : rwS l = some w) : wtx w = l ∧ l ≠ [] := by
  have hn : l ≠ [] := fun e => by rw [e, rwS_nil] at h; cases h
  have := rwS_eq h
  subst this
  exact ⟨(rwS_of hn).2 h, hn⟩

theorem i64_wrapW {n : Int} (h : -1000 ≤ n ∧ n ≤ 1000) : IntKind.i64.wrap n = n := wrap_in (by simp [IntKind.min, IntKind.signed, IntKind.bits]; omega) (by simp [IntKind.max, IntKind.signed, IntKind.bits]; omega)

theorem impl_ReadWord {l : List UInt8} (hl : l.length ≤ 1048576) : AC Tryd.prog 25 [.str l] (.tup [ints ((rwS l).getD []), .int .i64 (rwE l)]) := by
  unfold rwE
  by_cases h45 : l = [45]
  · subst h45
    have e1 := impl_WordText (w := []) (by simp)
    have hr : rwS [45] = some [] := by decide
    have hx : wtx [] = [45] := by decide
    rw [hx] at e1
    rw [hr]
    refine ac_intro tabIs _ Tryd.func25 rfl rfl Tryd.ntmps25 rfl rfl fun w0 ok0 => ?_
    repeat (first | refine v_w (t := 6) ?_ | refine awp_seq ?_ | refine then_n ?_ | refine then_r ?_ | refine then_x ?_ | refine block_n ?_ | refine block_r ?_ | refine block_x ?_ | refine u_y ?_ | refine loop_r ?_ | refine loop_x ?_ | refine awp_region ?_ | refine awpL_nil ?_ | refine awpQL_nil ?_ | refine awp_block ?_ | refine awp_skip ?_ | refine awp_exit ?_ | refine awp_label ?_ | refine u_dT ?_ | refine u_d ?_ | refine u_w (t := 6) ?_ | refine u_l ?_ | refine u_o ?_ | refine u_q ?_ | refine u_lr ?_ | refine u_qr ?_ | refine u_ls ?_ | refine u_qs ?_ | refine u_t ?_ | refine u_f ?_ | refine v_s ?_ | refine v_o ?_ | refine v_on ?_ | refine v_og ?_ | refine v_q ?_ | refine v_sr ?_ | refine v_k ?_ | refine m_nil ?_)
    refine awp_loop (fun i : Nat => i ≤ 1) (fun i => [(0, .d (.str [45])), (4, .own 6), (8, .d (.int .i64 1)), (9, .d (.int .i64 i))]) (fun i => [(6, .arr 2 1 [])]) (fun i => 1 - i) 0 (by omega) ?_ rfl ?_
    · ((repeat (first | exact trivial | (refine ⟨?_, ?_⟩; (focus (first | rfl | (simp [lk, argsS, args0]; done) | (simp [lk, argsS, args0]; omega)))))))
    · intro i hi
      by_cases hlt : i < 1
      · repeat (first | refine awp_seq ?_ | refine then_n ?_ | refine then_r ?_ | refine then_x ?_ | refine block_n ?_ | refine block_r ?_ | refine block_x ?_ | refine u_y ?_ | refine loop_r ?_ | refine loop_x ?_ | refine awp_region ?_ | refine awpL_nil ?_ | refine awpQL_nil ?_ | refine awp_block ?_ | refine awp_skip ?_ | refine awp_exit ?_ | refine awp_label ?_ | refine u_dT ?_ | refine u_d ?_ | refine u_l ?_ | refine u_o ?_ | refine u_q ?_ | refine u_lr ?_ | refine u_qr ?_ | refine u_ls ?_ | refine u_qs ?_ | refine u_t ?_ | refine u_f ?_ | refine v_s ?_ | refine v_o ?_ | refine v_on ?_ | refine v_og ?_ | refine v_q ?_ | refine v_sr ?_ | refine v_k ?_ | refine m_nil ?_)
        refine loop_n (i + 1) (by omega) ?_ rfl (by omega)
        ((repeat (first | exact trivial | (refine ⟨?_, ?_⟩; (focus (first | rfl | (simp [lk, argsS, args0]; done) | (simp [lk, argsS, args0]; omega)))))))
      · have hie : i = 1 := by omega
        subst hie
        repeat (first | refine awp_seq ?_ | refine then_n ?_ | refine then_r ?_ | refine then_x ?_ | refine block_n ?_ | refine block_r ?_ | refine block_x ?_ | refine u_y ?_ | refine loop_r ?_ | refine loop_x ?_ | refine awp_region ?_ | refine awpL_nil ?_ | refine awpQL_nil ?_ | refine awp_block ?_ | refine awp_skip ?_ | refine awp_exit ?_ | refine awp_label ?_ | refine u_dT ?_ | refine u_d ?_ | refine u_l ?_ | refine u_o ?_ | refine u_q ?_ | refine u_lr ?_ | refine u_qr ?_ | refine u_ls ?_ | refine u_qs ?_ | refine u_t ?_ | refine u_f ?_ | refine v_s ?_ | refine v_o ?_ | refine v_on ?_ | refine v_og ?_ | refine v_q ?_ | refine v_sr ?_ | refine v_k ?_ | refine m_nil ?_)
        refine awpL_freeze 6 rfl rfl ?_
        repeat (first | refine awp_seq ?_ | refine then_n ?_ | refine then_r ?_ | refine then_x ?_ | refine block_n ?_ | refine block_r ?_ | refine block_x ?_ | refine u_y ?_ | refine loop_r ?_ | refine loop_x ?_ | refine awp_region ?_ | refine awpL_nil ?_ | refine awpQL_nil ?_ | refine awp_block ?_ | refine awp_skip ?_ | refine awp_exit ?_ | refine awp_label ?_ | refine u_dT ?_ | refine u_d ?_ | ((first | apply c_l | apply c_q | apply c_lr | apply c_qr); (iterate 2 exact rfl); (focus (first | exact e1)); (iterate 2 exact rfl)) | (apply v_c; (iterate 4 exact rfl); (focus (first | exact e1)); (iterate 2 exact rfl)) | refine u_l ?_ | refine u_o ?_ | refine u_q ?_ | refine u_lr ?_ | refine u_qr ?_ | refine u_ls ?_ | refine u_qs ?_ | refine u_t ?_ | refine u_f ?_ | refine v_s ?_ | refine v_o ?_ | refine v_on ?_ | refine v_og ?_ | refine v_q ?_ | refine v_sr ?_ | refine v_k ?_ | refine m_nil ?_ | refine u_glt ?_ | refine u_glf ?_ | refine u_gqt ?_ | refine u_gqf ?_)
        (refine awp_ret ?_; (repeat (first | refine then_r ?_ | refine block_r ?_ | refine loop_r ?_)); apply ret_ok (.inr rfl); (focus exact rfl))
        rfl
  have hd45 : decide (l = [45]) = false := decide_eq_false h45
  have hrd : rwd l = l.map chI := by unfold rwd; rw [if_neg h45]
  by_cases hn : l = []
  · have hr : rwS l = none := by rw [hn, rwS_nil]
    rw [hr]
    have hdn : decide (l = []) = true := decide_eq_true hn
    refine ac_nilR (n := 5) ?_
    refine ac_intro tabIs _ Tryd.func25 rfl rfl Tryd.ntmps25 rfl rfl fun w0 ok0 => ?_
    repeat (first | refine v_w (t := 6) ?_ | refine awp_seq ?_ | refine then_n ?_ | refine then_r ?_ | refine then_x ?_ | refine block_n ?_ | refine block_r ?_ | refine block_x ?_ | refine u_y ?_ | refine loop_r ?_ | refine loop_x ?_ | refine awp_region ?_ | refine awpL_nil ?_ | refine awpQL_nil ?_ | refine awp_block ?_ | refine awp_skip ?_ | refine awp_exit ?_ | refine awp_label ?_ | refine u_dT ?_ | refine u_d ?_ | refine u_w (t := 6) ?_ | refine u_l ?_ | refine u_o ?_ | refine u_q ?_ | refine u_lr ?_ | refine u_qr ?_ | refine u_ls ?_ | refine u_qs ?_ | refine u_t ?_ | refine u_f ?_ | refine v_s ?_ | refine v_o ?_ | refine v_on ?_ | refine v_og ?_ | refine v_q ?_ | refine v_sr ?_ | refine v_k ?_ | refine m_nil ?_)
    refine awp_loop (fun i : Nat => i ≤ l.length) (fun i => [(0, .d (.str l)), (4, .own 6), (8, .d (.int .i64 l.length)), (9, .d (.int .i64 i))]) (fun i => [(6, .arr 2 1 (((l.take i).map chI).map (.int .i64)))]) (fun i => l.length - i) 0 (by omega) ?_ rfl ?_
    · ((repeat (first | exact trivial | (refine ⟨?_, ?_⟩; (focus (first | rfl | (simp [lk, argsS, args0]; done) | (simp [lk, argsS, args0]; omega)))))))
    · intro i hi
      by_cases hlt : i < l.length
      · have hc : l[((i : Nat) : Int).toNat]? = some l[i] := by simp [hlt]
        have hst := List.take_succ_eq_append_getElem hlt
        have hlt2 := UInt8.toNat_lt l[i]
        have hw2 := i64_wrapW (n := (l[i].toNat : Int)) (by omega)
        generalize l[i] = c at *
        repeat (first | refine awp_seq ?_ | refine then_n ?_ | refine then_r ?_ | refine then_x ?_ | refine block_n ?_ | refine block_r ?_ | refine block_x ?_ | refine u_y ?_ | refine loop_r ?_ | refine loop_x ?_ | refine awp_region ?_ | refine awpL_nil ?_ | refine awpQL_nil ?_ | refine awp_block ?_ | refine awp_skip ?_ | refine awp_exit ?_ | refine awp_label ?_ | refine u_dT ?_ | refine u_d ?_ | ((first | apply x_l | apply x_q | apply x_lr | apply x_qr); (focus (first | (apply qa_strIndex; (iterate 6 (focus (first | exact rfl | (first | assumption | omega | (simp; omega) | (simp; done) | rfl))))))); exact rfl) | (apply v_x; (iterate 2 exact rfl); (focus (intro ok0 nw hle; (first | (apply qa_strIndex; (iterate 6 (focus (first | exact rfl | (first | assumption | omega | (simp; omega) | (simp; done) | rfl)))))))); (iterate 2 exact rfl)) | refine u_l ?_ | refine u_o ?_ | refine u_q ?_ | refine u_lr ?_ | refine u_qr ?_ | refine u_ls ?_ | refine u_qs ?_ | refine u_t ?_ | refine u_f ?_ | refine v_s ?_ | refine v_o ?_ | refine v_on ?_ | refine v_og ?_ | refine v_q ?_ | refine v_sr ?_ | refine v_k ?_ | refine m_nil ?_ | refine u_glt ?_ | refine u_glf ?_ | refine u_gqt ?_ | refine u_gqf ?_)
        refine loop_n (i + 1) (by omega) ?_ ?_ (by omega)
        · ((repeat (first | exact trivial | (refine ⟨?_, ?_⟩; (focus (first | rfl | (simp [lk, argsS, args0]; done) | (simp [lk, argsS, args0]; omega)))))))
        · rw [hst, List.map_append, List.map_append]
          refine congrArg (fun d => [(6, Chunk.arr 2 1 ((((l.take i).map chI).map (D.int .i64)) ++ [d]))]) ?_
          simp [hw2, chI]
      · have hie : i = l.length := by omega
        subst hie
        rw [List.take_length]
        have e1 := impl_WordText (w := l.map chI) (by simpa using hl)
        rw [← hrd] at e1 ⊢
        subst hn
        repeat (first | refine awp_seq ?_ | refine then_n ?_ | refine then_r ?_ | refine then_x ?_ | refine block_n ?_ | refine block_r ?_ | refine block_x ?_ | refine u_y ?_ | refine loop_r ?_ | refine loop_x ?_ | refine awp_region ?_ | refine awpL_nil ?_ | refine awpQL_nil ?_ | refine awp_block ?_ | refine awp_skip ?_ | refine awp_exit ?_ | refine awp_label ?_ | refine u_dT ?_ | refine u_d ?_ | refine u_l ?_ | refine u_o ?_ | refine u_q ?_ | refine u_lr ?_ | refine u_qr ?_ | refine u_ls ?_ | refine u_qs ?_ | refine u_t ?_ | refine u_f ?_ | refine v_s ?_ | refine v_o ?_ | refine v_on ?_ | refine v_og ?_ | refine v_q ?_ | refine v_sr ?_ | refine v_k ?_ | refine m_nil ?_)
        (refine awp_ret ?_; (repeat (first | refine then_r ?_ | refine block_r ?_ | refine loop_r ?_)); apply ret_ok (.inr rfl); (focus exact rfl))
        rfl
  have hdn : decide (l = []) = false := decide_eq_false hn
  by_cases hw : wtx (rwd l) = l
  · rw [(rwS_of hn).1 hw]
    refine ac_intro tabIs _ Tryd.func25 rfl rfl Tryd.ntmps25 rfl rfl fun w0 ok0 => ?_
    repeat (first | refine v_w (t := 6) ?_ | refine awp_seq ?_ | refine then_n ?_ | refine then_r ?_ | refine then_x ?_ | refine block_n ?_ | refine block_r ?_ | refine block_x ?_ | refine u_y ?_ | refine loop_r ?_ | refine loop_x ?_ | refine awp_region ?_ | refine awpL_nil ?_ | refine awpQL_nil ?_ | refine awp_block ?_ | refine awp_skip ?_ | refine awp_exit ?_ | refine awp_label ?_ | refine u_dT ?_ | refine u_d ?_ | refine u_w (t := 6) ?_ | refine u_l ?_ | refine u_o ?_ | refine u_q ?_ | refine u_lr ?_ | refine u_qr ?_ | refine u_ls ?_ | refine u_qs ?_ | refine u_t ?_ | refine u_f ?_ | refine v_s ?_ | refine v_o ?_ | refine v_on ?_ | refine v_og ?_ | refine v_q ?_ | refine v_sr ?_ | refine v_k ?_ | refine m_nil ?_)
    refine awp_loop (fun i : Nat => i ≤ l.length) (fun i => [(0, .d (.str l)), (4, .own 6), (8, .d (.int .i64 l.length)), (9, .d (.int .i64 i))]) (fun i => [(6, .arr 2 1 (((l.take i).map chI).map (.int .i64)))]) (fun i => l.length - i) 0 (by omega) ?_ rfl ?_
    · ((repeat (first | exact trivial | (refine ⟨?_, ?_⟩; (focus (first | rfl | (simp [lk, argsS, args0]; done) | (simp [lk, argsS, args0]; omega)))))))
    · intro i hi
      by_cases hlt : i < l.length
      · have hc : l[((i : Nat) : Int).toNat]? = some l[i] := by simp [hlt]
        have hst := List.take_succ_eq_append_getElem hlt
        have hlt2 := UInt8.toNat_lt l[i]
        have hw2 := i64_wrapW (n := (l[i].toNat : Int)) (by omega)
        generalize l[i] = c at *
        repeat (first | refine awp_seq ?_ | refine then_n ?_ | refine then_r ?_ | refine then_x ?_ | refine block_n ?_ | refine block_r ?_ | refine block_x ?_ | refine u_y ?_ | refine loop_r ?_ | refine loop_x ?_ | refine awp_region ?_ | refine awpL_nil ?_ | refine awpQL_nil ?_ | refine awp_block ?_ | refine awp_skip ?_ | refine awp_exit ?_ | refine awp_label ?_ | refine u_dT ?_ | refine u_d ?_ | ((first | apply x_l | apply x_q | apply x_lr | apply x_qr); (focus (first | (apply qa_strIndex; (iterate 6 (focus (first | exact rfl | (first | assumption | omega | (simp; omega) | (simp; done) | rfl))))))); exact rfl) | (apply v_x; (iterate 2 exact rfl); (focus (intro ok0 nw hle; (first | (apply qa_strIndex; (iterate 6 (focus (first | exact rfl | (first | assumption | omega | (simp; omega) | (simp; done) | rfl)))))))); (iterate 2 exact rfl)) | refine u_l ?_ | refine u_o ?_ | refine u_q ?_ | refine u_lr ?_ | refine u_qr ?_ | refine u_ls ?_ | refine u_qs ?_ | refine u_t ?_ | refine u_f ?_ | refine v_s ?_ | refine v_o ?_ | refine v_on ?_ | refine v_og ?_ | refine v_q ?_ | refine v_sr ?_ | refine v_k ?_ | refine m_nil ?_ | refine u_glt ?_ | refine u_glf ?_ | refine u_gqt ?_ | refine u_gqf ?_)
        refine loop_n (i + 1) (by omega) ?_ ?_ (by omega)
        · ((repeat (first | exact trivial | (refine ⟨?_, ?_⟩; (focus (first | rfl | (simp [lk, argsS, args0]; done) | (simp [lk, argsS, args0]; omega)))))))
        · rw [hst, List.map_append, List.map_append]
          refine congrArg (fun d => [(6, Chunk.arr 2 1 ((((l.take i).map chI).map (D.int .i64)) ++ [d]))]) ?_
          simp [hw2, chI]
      · have hie : i = l.length := by omega
        subst hie
        rw [List.take_length]
        have e1 := impl_WordText (w := l.map chI) (by simpa using hl)
        rw [← hrd] at e1 ⊢
        rw [hw] at e1
        generalize rwd l = rw at *
        repeat (first | refine awp_seq ?_ | refine then_n ?_ | refine then_r ?_ | refine then_x ?_ | refine block_n ?_ | refine block_r ?_ | refine block_x ?_ | refine u_y ?_ | refine loop_r ?_ | refine loop_x ?_ | refine awp_region ?_ | refine awpL_nil ?_ | refine awpQL_nil ?_ | refine awp_block ?_ | refine awp_skip ?_ | refine awp_exit ?_ | refine awp_label ?_ | refine u_dT ?_ | refine u_d ?_ | refine u_l ?_ | refine u_o ?_ | refine u_q ?_ | refine u_lr ?_ | refine u_qr ?_ | refine u_ls ?_ | refine u_qs ?_ | refine u_t ?_ | refine u_f ?_ | refine v_s ?_ | refine v_o ?_ | refine v_on ?_ | refine v_og ?_ | refine v_q ?_ | refine v_sr ?_ | refine v_k ?_ | refine m_nil ?_)
        refine awpL_freeze 6 rfl rfl ?_
        repeat (first | refine awp_seq ?_ | refine then_n ?_ | refine then_r ?_ | refine then_x ?_ | refine block_n ?_ | refine block_r ?_ | refine block_x ?_ | refine u_y ?_ | refine loop_r ?_ | refine loop_x ?_ | refine awp_region ?_ | refine awpL_nil ?_ | refine awpQL_nil ?_ | refine awp_block ?_ | refine awp_skip ?_ | refine awp_exit ?_ | refine awp_label ?_ | refine u_dT ?_ | refine u_d ?_ | ((first | apply c_l | apply c_q | apply c_lr | apply c_qr); (iterate 2 exact rfl); (focus (first | exact e1)); (iterate 2 exact rfl)) | (apply v_c; (iterate 4 exact rfl); (focus (first | exact e1)); (iterate 2 exact rfl)) | refine u_l ?_ | refine u_o ?_ | refine u_q ?_ | refine u_lr ?_ | refine u_qr ?_ | refine u_ls ?_ | refine u_qs ?_ | refine u_t ?_ | refine u_f ?_ | refine v_s ?_ | refine v_o ?_ | refine v_on ?_ | refine v_og ?_ | refine v_q ?_ | refine v_sr ?_ | refine v_k ?_ | refine m_nil ?_ | refine u_glt ?_ | refine u_glf ?_ | refine u_gqt ?_ | refine u_gqf ?_)
        (refine awp_ret ?_; (repeat (first | refine then_r ?_ | refine block_r ?_ | refine loop_r ?_)); apply ret_ok (.inr rfl); (focus exact rfl))
        rfl
  · have hdw : decide (wtx (rwd l) = l) = false := decide_eq_false hw
    have hnone : rwS l = none := by
      cases hh : rwS l with
      | none => rfl
      | some v =>
        have := rwS_eq hh
        subst this
        exact absurd ((rwS_of hn).2 hh) hw
    rw [hnone]
    refine ac_nilR (n := 5) ?_
    refine ac_intro tabIs _ Tryd.func25 rfl rfl Tryd.ntmps25 rfl rfl fun w0 ok0 => ?_
    repeat (first | refine v_w (t := 6) ?_ | refine awp_seq ?_ | refine then_n ?_ | refine then_r ?_ | refine then_x ?_ | refine block_n ?_ | refine block_r ?_ | refine block_x ?_ | refine u_y ?_ | refine loop_r ?_ | refine loop_x ?_ | refine awp_region ?_ | refine awpL_nil ?_ | refine awpQL_nil ?_ | refine awp_block ?_ | refine awp_skip ?_ | refine awp_exit ?_ | refine awp_label ?_ | refine u_dT ?_ | refine u_d ?_ | refine u_w (t := 6) ?_ | refine u_l ?_ | refine u_o ?_ | refine u_q ?_ | refine u_lr ?_ | refine u_qr ?_ | refine u_ls ?_ | refine u_qs ?_ | refine u_t ?_ | refine u_f ?_ | refine v_s ?_ | refine v_o ?_ | refine v_on ?_ | refine v_og ?_ | refine v_q ?_ | refine v_sr ?_ | refine v_k ?_ | refine m_nil ?_)
    refine awp_loop (fun i : Nat => i ≤ l.length) (fun i => [(0, .d (.str l)), (4, .own 6), (8, .d (.int .i64 l.length)), (9, .d (.int .i64 i))]) (fun i => [(6, .arr 2 1 (((l.take i).map chI).map (.int .i64)))]) (fun i => l.length - i) 0 (by omega) ?_ rfl ?_
    · ((repeat (first | exact trivial | (refine ⟨?_, ?_⟩; (focus (first | rfl | (simp [lk, argsS, args0]; done) | (simp [lk, argsS, args0]; omega)))))))
    · intro i hi
      by_cases hlt : i < l.length
      · have hc : l[((i : Nat) : Int).toNat]? = some l[i] := by simp [hlt]
        have hst := List.take_succ_eq_append_getElem hlt
        have hlt2 := UInt8.toNat_lt l[i]
        have hw2 := i64_wrapW (n := (l[i].toNat : Int)) (by omega)
        generalize l[i] = c at *
        repeat (first | refine awp_seq ?_ | refine then_n ?_ | refine then_r ?_ | refine then_x ?_ | refine block_n ?_ | refine block_r ?_ | refine block_x ?_ | refine u_y ?_ | refine loop_r ?_ | refine loop_x ?_ | refine awp_region ?_ | refine awpL_nil ?_ | refine awpQL_nil ?_ | refine awp_block ?_ | refine awp_skip ?_ | refine awp_exit ?_ | refine awp_label ?_ | refine u_dT ?_ | refine u_d ?_ | ((first | apply x_l | apply x_q | apply x_lr | apply x_qr); (focus (first | (apply qa_strIndex; (iterate 6 (focus (first | exact rfl | (first | assumption | omega | (simp; omega) | (simp; done) | rfl))))))); exact rfl) | (apply v_x; (iterate 2 exact rfl); (focus (intro ok0 nw hle; (first | (apply qa_strIndex; (iterate 6 (focus (first | exact rfl | (first | assumption | omega | (simp; omega) | (simp; done) | rfl)))))))); (iterate 2 exact rfl)) | refine u_l ?_ | refine u_o ?_ | refine u_q ?_ | refine u_lr ?_ | refine u_qr ?_ | refine u_ls ?_ | refine u_qs ?_ | refine u_t ?_ | refine u_f ?_ | refine v_s ?_ | refine v_o ?_ | refine v_on ?_ | refine v_og ?_ | refine v_q ?_ | refine v_sr ?_ | refine v_k ?_ | refine m_nil ?_ | refine u_glt ?_ | refine u_glf ?_ | refine u_gqt ?_ | refine u_gqf ?_)
        refine loop_n (i + 1) (by omega) ?_ ?_ (by omega)
        · ((repeat (first | exact trivial | (refine ⟨?_, ?_⟩; (focus (first | rfl | (simp [lk, argsS, args0]; done) | (simp [lk, argsS, args0]; omega)))))))
        · rw [hst, List.map_append, List.map_append]
          refine congrArg (fun d => [(6, Chunk.arr 2 1 ((((l.take i).map chI).map (D.int .i64)) ++ [d]))]) ?_
          simp [hw2, chI]
      · have hie : i = l.length := by omega
        subst hie
        rw [List.take_length]
        have e1 := impl_WordText (w := l.map chI) (by simpa using hl)
        rw [← hrd] at e1 ⊢
        generalize rwd l = rw at *
        generalize wtx rw = tx at *
        repeat (first | refine awp_seq ?_ | refine then_n ?_ | refine then_r ?_ | refine then_x ?_ | refine block_n ?_ | refine block_r ?_ | refine block_x ?_ | refine u_y ?_ | refine loop_r ?_ | refine loop_x ?_ | refine awp_region ?_ | refine awpL_nil ?_ | refine awpQL_nil ?_ | refine awp_block ?_ | refine awp_skip ?_ | refine awp_exit ?_ | refine awp_label ?_ | refine u_dT ?_ | refine u_d ?_ | refine u_l ?_ | refine u_o ?_ | refine u_q ?_ | refine u_lr ?_ | refine u_qr ?_ | refine u_ls ?_ | refine u_qs ?_ | refine u_t ?_ | refine u_f ?_ | refine v_s ?_ | refine v_o ?_ | refine v_on ?_ | refine v_og ?_ | refine v_q ?_ | refine v_sr ?_ | refine v_k ?_ | refine m_nil ?_)
        refine awpL_freeze 6 rfl rfl ?_
        repeat (first | refine awp_seq ?_ | refine then_n ?_ | refine then_r ?_ | refine then_x ?_ | refine block_n ?_ | refine block_r ?_ | refine block_x ?_ | refine u_y ?_ | refine loop_r ?_ | refine loop_x ?_ | refine awp_region ?_ | refine awpL_nil ?_ | refine awpQL_nil ?_ | refine awp_block ?_ | refine awp_skip ?_ | refine awp_exit ?_ | refine awp_label ?_ | refine u_dT ?_ | refine u_d ?_ | ((first | apply c_l | apply c_q | apply c_lr | apply c_qr); (iterate 2 exact rfl); (focus (first | exact e1)); (iterate 2 exact rfl)) | (apply v_c; (iterate 4 exact rfl); (focus (first | exact e1)); (iterate 2 exact rfl)) | refine u_l ?_ | refine u_o ?_ | refine u_q ?_ | refine u_lr ?_ | refine u_qr ?_ | refine u_ls ?_ | refine u_qs ?_ | refine u_t ?_ | refine u_f ?_ | refine v_s ?_ | refine v_o ?_ | refine v_on ?_ | refine v_og ?_ | refine v_q ?_ | refine v_sr ?_ | refine v_k ?_ | refine m_nil ?_ | refine u_glt ?_ | refine u_glf ?_ | refine u_gqt ?_ | refine u_gqf ?_)
        (refine awp_ret ?_; (repeat (first | refine then_r ?_ | refine block_r ?_ | refine loop_r ?_)); apply ret_ok (.inr rfl); (focus exact rfl))
        rfl
end Go.Proofs.YtfondjnjdcijaaaDoor
