/- Texts cut into lines and read as words: the reference's l01Split, both ReadWords. No condition but bounds. -/
import Derived.Test.YtfondjnjdcijaaaDoorRw
import Derived.Test.YtfondjnjdcijaaaDoorSp
namespace Go.Proofs.YtfondjnjdcijaaaDoor
open Go
attribute [local irreducible] awp awpL awpQL awpQ awpM pWalk Qt AC thenQ blockQ loopQ OpTo
set_option linter.unusedVariables false
set_option linter.unusedSimpArgs false
set_option maxHeartbeats 2000000
attribute [local irreducible] HC

theorem cut_at {l : List UInt8} {f i : Nat} (hf : f ≤ i) (hi : i < l.length) : l.drop f = (l.drop f).take (i - f) ++ l[i] :: l.drop (i + 1) := by
  have h1 : (l.drop f).drop (i - f) = l[i] :: l.drop (i + 1) := by
    rw [List.drop_drop, show f + (i - f) = i by omega]
    exact List.drop_eq_getElem_cons hi
  rw [← h1, List.take_append_drop]
theorem take_drop {l : List UInt8} {f i : Nat} : (l.drop f).take (i - f) = (l.take i).drop f := by
  rw [List.drop_take]

theorem spec_l01Split {l : List UInt8} (hl : l.length ≤ 1048576) : AC Tryd.prog 22 [.str l, .int .u8 10] (.lst ((lns l).map .str)) := by
  refine ac_intro tabIs _ Tryd.func22 rfl rfl Tryd.ntmps22 rfl rfl fun w0 ok0 => ?_
  repeat (first | refine v_w (t := 8) ?_ | refine awp_seq ?_ | refine then_n ?_ | refine then_r ?_ | refine then_x ?_ | refine block_n ?_ | refine block_r ?_ | refine block_x ?_ | refine u_y ?_ | refine loop_r ?_ | refine loop_x ?_ | refine awp_region ?_ | refine awpL_nil ?_ | refine awpQL_nil ?_ | refine awp_block ?_ | refine awp_skip ?_ | refine awp_exit ?_ | refine awp_label ?_ | refine u_dT ?_ | refine u_d ?_ | refine u_w (t := 8) ?_ | refine u_l ?_ | refine u_o ?_ | refine u_q ?_ | refine u_lr ?_ | refine u_qr ?_ | refine u_ls ?_ | refine u_qs ?_ | refine u_t ?_ | refine u_f ?_ | refine v_s ?_ | refine v_o ?_ | refine v_on ?_ | refine v_og ?_ | refine v_q ?_ | refine v_sr ?_ | refine v_k ?_ | refine m_nil ?_)
  refine awp_loop (fun p : Nat × Nat × List (List UInt8) => p.2.1 ≤ p.1 ∧ p.1 ≤ l.length ∧ (∀ c ∈ (l.drop p.2.1).take (p.1 - p.2.1), c ≠ 10) ∧ lns l = p.2.2 ++ lns (l.drop p.2.1) ∧ p.2.2.length ≤ p.1) (fun p => [(0, .d (.str l)), (1, .d (.int .u8 10)), (5, .own 8), (6, .d (.int .i64 p.2.1)), (7, .d (.int .i64 p.1))]) (fun p => [(8, .arr 9 1 (p.2.2.map .str))]) (fun p => l.length - p.1) (0, 0, []) ⟨by simp, by simp, by simp, by simp, by simp⟩ ?_ rfl ?_
  · ((repeat (first | exact trivial | (refine ⟨?_, ?_⟩; (focus (first | rfl | (simp [lk, argsS, args0]; done) | (simp [lk, argsS, args0]; omega)))))))
  · rintro ⟨i, f, d⟩ ⟨hf, hi, hno, heq, hdl⟩
    simp only at hf hi hno heq hdl ⊢
    by_cases hlt : i < l.length
    · have hc : l[((i : Nat) : Int).toNat]? = some l[i] := by simp [hlt]
      by_cases h10 : l[i] = 10
      · have hd : decide (((l[i].toNat : Nat) : Int) = 10) = true := by rw [h10]; rfl
        have hcut : lns (l.drop f) = ((l.drop f).take (i - f)) :: lns (l.drop (i + 1)) := by
          conv => lhs; rw [cut_at hf hlt, h10]
          exact lns_at hno
        generalize l[i] = c at *
        repeat (first | refine awp_seq ?_ | refine then_n ?_ | refine then_r ?_ | refine then_x ?_ | refine block_n ?_ | refine block_r ?_ | refine block_x ?_ | refine u_y ?_ | refine loop_r ?_ | refine loop_x ?_ | refine awp_region ?_ | refine awpL_nil ?_ | refine awpQL_nil ?_ | refine awp_block ?_ | refine awp_skip ?_ | refine awp_exit ?_ | refine awp_label ?_ | refine u_dT ?_ | refine u_d ?_ | ((first | apply x_l | apply x_q | apply x_lr | apply x_qr); (focus (first | (apply qa_strIndex; (iterate 6 (focus (first | exact rfl | (first | assumption | omega | (simp; omega) | (simp; done) | rfl))))) | (apply qa_strSlice_lh; (iterate 8 (focus (first | exact rfl | (first | assumption | omega | (simp; omega) | (simp; done) | rfl))))))); exact rfl) | (apply v_x; (iterate 2 exact rfl); (focus (intro ok0 nw hle; (first | (apply qa_strIndex; (iterate 6 (focus (first | exact rfl | (first | assumption | omega | (simp; omega) | (simp; done) | rfl))))) | (apply qa_strSlice_lh; (iterate 8 (focus (first | exact rfl | (first | assumption | omega | (simp; omega) | (simp; done) | rfl)))))))); (iterate 2 exact rfl)) | refine u_l ?_ | refine u_o ?_ | refine u_q ?_ | refine u_lr ?_ | refine u_qr ?_ | refine u_ls ?_ | refine u_qs ?_ | refine u_t ?_ | refine u_f ?_ | refine v_s ?_ | refine v_o ?_ | refine v_on ?_ | refine v_og ?_ | refine v_q ?_ | refine v_sr ?_ | refine v_k ?_ | refine m_nil ?_)
        refine loop_n ((i + 1, i + 1, d ++ [(l.drop f).take (i - f)]) : Nat × Nat × List (List UInt8)) ⟨Nat.le_refl _, hlt, by simp, by show lns l = (d ++ [(l.drop f).take (i - f)]) ++ lns (l.drop (i + 1)); rw [heq, hcut]; simp, by simp; omega⟩ ?_ ?_ (by simp; omega)
        · ((repeat (first | exact trivial | (refine ⟨?_, ?_⟩; (focus (first | rfl | (simp [lk, argsS, args0]; done) | (simp [lk, argsS, args0]; omega)))))))
        · exact congrArg (fun x => [(8, Chunk.arr 9 1 x)]) (List.map_append (f := D.str) (l₁ := d) (l₂ := [(l.drop f).take (i - f)]))
      · have hd : decide (((l[i].toNat : Nat) : Int) = 10) = false := decide_eq_false fun e => h10 (UInt8.toNat_inj.1 (show l[i].toNat = 10 by omega))
        have hno' : ∀ c ∈ (l.drop f).take (i + 1 - f), c ≠ 10 := by
          intro c hc'
          rw [take_drop, List.take_succ_eq_append_getElem hlt, List.drop_append_of_le_length (by simp; omega), ← take_drop, List.mem_append] at hc'
          rcases hc' with h | h
          · exact hno c h
          · simp at h; rw [h]; exact h10
        generalize l[i] = c at *
        repeat (first | refine awp_seq ?_ | refine then_n ?_ | refine then_r ?_ | refine then_x ?_ | refine block_n ?_ | refine block_r ?_ | refine block_x ?_ | refine u_y ?_ | refine loop_r ?_ | refine loop_x ?_ | refine awp_region ?_ | refine awpL_nil ?_ | refine awpQL_nil ?_ | refine awp_block ?_ | refine awp_skip ?_ | refine awp_exit ?_ | refine awp_label ?_ | refine u_dT ?_ | refine u_d ?_ | ((first | apply x_l | apply x_q | apply x_lr | apply x_qr); (focus (first | (apply qa_strIndex; (iterate 6 (focus (first | exact rfl | (first | assumption | omega | (simp; omega) | (simp; done) | rfl))))))); exact rfl) | (apply v_x; (iterate 2 exact rfl); (focus (intro ok0 nw hle; (first | (apply qa_strIndex; (iterate 6 (focus (first | exact rfl | (first | assumption | omega | (simp; omega) | (simp; done) | rfl)))))))); (iterate 2 exact rfl)) | refine u_l ?_ | refine u_o ?_ | refine u_q ?_ | refine u_lr ?_ | refine u_qr ?_ | refine u_ls ?_ | refine u_qs ?_ | refine u_t ?_ | refine u_f ?_ | refine v_s ?_ | refine v_o ?_ | refine v_on ?_ | refine v_og ?_ | refine v_q ?_ | refine v_sr ?_ | refine v_k ?_ | refine m_nil ?_)
        refine loop_n ((i + 1, f, d) : Nat × Nat × List (List UInt8)) ⟨Nat.le_succ_of_le hf, hlt, hno', heq, Nat.le_succ_of_le hdl⟩ ?_ rfl (by simp; omega)
        ((repeat (first | exact trivial | (refine ⟨?_, ?_⟩; (focus (first | rfl | (simp [lk, argsS, args0]; done) | (simp [lk, argsS, args0]; omega)))))))
    · have hie : i = l.length := by omega
      subst hie
      rw [List.take_of_length_le (by simp)] at hno
      rw [heq, lns_no hno]
      repeat (first | refine awp_seq ?_ | refine then_n ?_ | refine then_r ?_ | refine then_x ?_ | refine block_n ?_ | refine block_r ?_ | refine block_x ?_ | refine u_y ?_ | refine loop_r ?_ | refine loop_x ?_ | refine awp_region ?_ | refine awpL_nil ?_ | refine awpQL_nil ?_ | refine awp_block ?_ | refine awp_skip ?_ | refine awp_exit ?_ | refine awp_label ?_ | refine u_dT ?_ | refine u_d ?_ | ((first | apply x_l | apply x_q | apply x_lr | apply x_qr); (focus (first | (apply qa_strSlice_l; (iterate 6 (focus (first | exact rfl | (first | assumption | omega | (simp; omega) | (simp; done) | rfl))))))); exact rfl) | (apply v_x; (iterate 2 exact rfl); (focus (intro ok0 nw hle; (first | (apply qa_strSlice_l; (iterate 6 (focus (first | exact rfl | (first | assumption | omega | (simp; omega) | (simp; done) | rfl)))))))); (iterate 2 exact rfl)) | refine u_l ?_ | refine u_o ?_ | refine u_q ?_ | refine u_lr ?_ | refine u_qr ?_ | refine u_ls ?_ | refine u_qs ?_ | refine u_t ?_ | refine u_f ?_ | refine v_s ?_ | refine v_o ?_ | refine v_on ?_ | refine v_og ?_ | refine v_q ?_ | refine v_sr ?_ | refine v_k ?_ | refine m_nil ?_)
      (refine awp_ret ?_; (repeat (first | refine then_r ?_ | refine block_r ?_ | refine loop_r ?_)); apply ret_ok (.inr rfl); (focus exact rfl))
      simp
/-! ### Words -/
def chI (c : UInt8) : Int := (c.toNat : Int) - 97
def chk (c : UInt8) : Bool := decide (97 ≤ (c.toNat : Int)) && decide ((c.toNat : Int) ≤ 99)
/-- The word with a text. -/
def rwS (l : List UInt8) : Option (List Int) := if l = [45] then some [] else if l.all chk = true ∧ 1 ≤ l.length ∧ l.length ≤ 400 then some (l.map chI) else none
def rwd (l : List UInt8) : List Int := if l = [45] then [] else l.map chI
def rwE (l : List UInt8) : Int := if (rwS l).isSome then 0 else 5
theorem rwS_len {l : List UInt8} {w : List Int} (h : rwS l = some w) : w.length ≤ 400 := by
  unfold rwS at h
  split at h
  · cases h; simp
  · split at h
    · rename_i h2
      cases h
      simp
      exact h2.2.2
    · cases h
theorem chB_chI {c : UInt8} : chB (chI c) = c := by
  unfold chB chI
  rw [show (97 : Int) + ((c.toNat : Int) - 97) = (c.toNat : Int) by omega]
  simp
theorem rwS_of {l : List UInt8} (hn : l ≠ []) : wtx (rwd l) = l ↔ rwS l = some (rwd l) := by
  unfold rwS rwd
  by_cases h45 : l = [45]
  · subst h45
    simp
    rfl
  · rw [if_neg h45, if_neg h45]
    have hok : wOkT (l.map chI) = true ↔ l.all chk = true ∧ l.length ≤ 400 := by
      unfold wOkT allIn
      rw [Bool.and_eq_true, decide_eq_true_eq, List.all_map, List.length_map]
      have : l.all ((fun x => inB x 0 2) ∘ chI) = l.all chk := by
        congr 1
        funext c
        refine Bool.eq_iff_iff.2 ?_
        simp only [Function.comp, inB, chk, Bool.and_eq_true, decide_eq_true_eq]
        unfold chI
        omega
      rw [this]
      constructor
      · rintro ⟨a, b⟩; exact ⟨b, by omega⟩
      · rintro ⟨a, b⟩; exact ⟨by omega, a⟩
    have h1 : 1 ≤ l.length := List.length_pos_iff.2 hn
    have hmn : l.map chI ≠ [] := by simpa using hn
    unfold wtx
    by_cases hw : wOkT (l.map chI) = true
    · rw [if_pos hw, if_neg hmn, if_pos ⟨(hok.1 hw).1, h1, (hok.1 hw).2⟩]
      simp only [List.map_map, true_iff]
      constructor
      · intro _; trivial
      · intro _
        have : (chB ∘ chI) = id := funext fun c => chB_chI
        rw [this]; simp
    · rw [if_neg hw, if_neg (fun h => hw (hok.2 ⟨h.1, h.2.2⟩))]
      constructor
      · intro h; exact absurd h.symm hn
      · intro h; cases h
theorem rwS_nil : rwS [] = none := by decide
theorem rwS_eq {l : List UInt8} {w : List Int} (h : rwS l = some w) : w = rwd l := by
  unfold rwS at h
  unfold rwd
  split at h
  · rename_i e; rw [if_pos e]; exact (Option.some.inj h).symm
  · rename_i e
    rw [if_neg e]
    split at h
    · exact (Option.some.inj h).symm
    · cases h
theorem rwS_wtx {l : List UInt8} {w : List Int} (h : rwS l = some w) : wtx w = l ∧ l ≠ [] := by
  have hn : l ≠ [] := fun e => by rw [e, rwS_nil] at h; cases h
  have := rwS_eq h
  subst this
  exact ⟨(rwS_of hn).2 h, hn⟩

theorem i64_wrapW {n : Int} (h : -1000 ≤ n ∧ n ≤ 1000) : IntKind.i64.wrap n = n := wrap_in (by simp [IntKind.min, IntKind.signed, IntKind.bits]; omega) (by simp [IntKind.max, IntKind.signed, IntKind.bits]; omega)

theorem spec_ReadWord {l : List UInt8} (hl : l.length ≤ 1048576) : AC Tryd.prog 23 [.str l] (.tup [ints ((rwS l).getD []), .int .i64 (rwE l)]) := by
  unfold rwE rwS
  by_cases h45 : l = [45]
  · subst h45
    refine ac_intro tabIs _ Tryd.func23 rfl rfl Tryd.ntmps23 rfl rfl fun w0 ok0 => ?_
    repeat (first | refine v_w (t := 6) ?_ | refine awp_seq ?_ | refine then_n ?_ | refine then_r ?_ | refine then_x ?_ | refine block_n ?_ | refine block_r ?_ | refine block_x ?_ | refine u_y ?_ | refine loop_r ?_ | refine loop_x ?_ | refine awp_region ?_ | refine awpL_nil ?_ | refine awpQL_nil ?_ | refine awp_block ?_ | refine awp_skip ?_ | refine awp_exit ?_ | refine awp_label ?_ | refine u_dT ?_ | refine u_d ?_ | refine u_w (t := 6) ?_ | refine u_l ?_ | refine u_o ?_ | refine u_q ?_ | refine u_lr ?_ | refine u_qr ?_ | refine u_ls ?_ | refine u_qs ?_ | refine u_t ?_ | refine u_f ?_ | refine v_s ?_ | refine v_o ?_ | refine v_on ?_ | refine v_og ?_ | refine v_q ?_ | refine v_sr ?_ | refine v_k ?_ | refine m_nil ?_)
    (refine awp_ret ?_; (repeat (first | refine then_r ?_ | refine block_r ?_ | refine loop_r ?_)); apply ret_ok (.inr rfl); (focus exact rfl))
    rfl
  · rw [if_neg h45]
    have hd45 : decide (l = [45]) = false := decide_eq_false h45
    refine ac_intro tabIs _ Tryd.func23 rfl rfl Tryd.ntmps23 rfl rfl fun w0 ok0 => ?_
    repeat (first | refine v_w (t := 6) ?_ | refine awp_seq ?_ | refine then_n ?_ | refine then_r ?_ | refine then_x ?_ | refine block_n ?_ | refine block_r ?_ | refine block_x ?_ | refine u_y ?_ | refine loop_r ?_ | refine loop_x ?_ | refine awp_region ?_ | refine awpL_nil ?_ | refine awpQL_nil ?_ | refine awp_block ?_ | refine awp_skip ?_ | refine awp_exit ?_ | refine awp_label ?_ | refine u_dT ?_ | refine u_d ?_ | refine u_w (t := 6) ?_ | refine u_l ?_ | refine u_o ?_ | refine u_q ?_ | refine u_lr ?_ | refine u_qr ?_ | refine u_ls ?_ | refine u_qs ?_ | refine u_t ?_ | refine u_f ?_ | refine v_s ?_ | refine v_o ?_ | refine v_on ?_ | refine v_og ?_ | refine v_q ?_ | refine v_sr ?_ | refine v_k ?_ | refine m_nil ?_)
    refine awp_loop (fun i : Nat => i ≤ l.length ∧ (l.take i).all chk = true) (fun i => [(0, .d (.str l)), (4, .own 6), (5, .d (.int .i64 i))]) (fun i => [(6, .arr 2 1 (((l.take i).map chI).map (.int .i64)))]) (fun i => l.length - i) 0 ⟨by omega, rfl⟩ ?_ rfl ?_
    · ((repeat (first | exact trivial | (refine ⟨?_, ?_⟩; (focus (first | rfl | (simp [lk, argsS, args0]; done) | (simp [lk, argsS, args0]; omega)))))))
    · rintro i ⟨hi, hall⟩
      by_cases hlt : i < l.length
      · have hc : l[((i : Nat) : Int).toNat]? = some l[i] := by simp [hlt]
        have hst := List.take_succ_eq_append_getElem hlt
        have hlt2 := UInt8.toNat_lt l[i]
        by_cases hk : chk l[i] = true
        · have hk2 := hk
          simp only [chk, Bool.and_eq_true, decide_eq_true_eq] at hk2
          have hw1 := u8_wrapT (n := (l[i].toNat : Int) - 97) (by omega)
          have hw2 := i64_wrapW (n := (l[i].toNat : Int) - 97) (by omega)
          generalize l[i] = c at *
          repeat (first | refine awp_seq ?_ | refine then_n ?_ | refine then_r ?_ | refine then_x ?_ | refine block_n ?_ | refine block_r ?_ | refine block_x ?_ | refine u_y ?_ | refine loop_r ?_ | refine loop_x ?_ | refine awp_region ?_ | refine awpL_nil ?_ | refine awpQL_nil ?_ | refine awp_block ?_ | refine awp_skip ?_ | refine awp_exit ?_ | refine awp_label ?_ | refine u_dT ?_ | refine u_d ?_ | ((first | apply x_l | apply x_q | apply x_lr | apply x_qr); (focus (first | (apply qa_strIndex; (iterate 6 (focus (first | exact rfl | (first | assumption | omega | (simp; omega) | (simp; done) | rfl))))))); exact rfl) | (apply v_x; (iterate 2 exact rfl); (focus (intro ok0 nw hle; (first | (apply qa_strIndex; (iterate 6 (focus (first | exact rfl | (first | assumption | omega | (simp; omega) | (simp; done) | rfl)))))))); (iterate 2 exact rfl)) | refine u_l ?_ | refine u_o ?_ | refine u_q ?_ | refine u_lr ?_ | refine u_qr ?_ | refine u_ls ?_ | refine u_qs ?_ | refine u_t ?_ | refine u_f ?_ | refine v_s ?_ | refine v_o ?_ | refine v_on ?_ | refine v_og ?_ | refine v_q ?_ | refine v_sr ?_ | refine v_k ?_ | refine m_nil ?_ | refine u_glt ?_ | refine u_glf ?_ | refine u_gqt ?_ | refine u_gqf ?_)
          refine loop_n (i + 1) ⟨hlt, by rw [hst, List.all_append, hall]; simp [hk]⟩ ?_ ?_ (by omega)
          · ((repeat (first | exact trivial | (refine ⟨?_, ?_⟩; (focus (first | rfl | (simp [lk, argsS, args0]; done) | (simp [lk, argsS, args0]; omega)))))))
          · rw [hst, List.map_append, List.map_append]
            refine congrArg (fun d => [(6, Chunk.arr 2 1 ((((l.take i).map chI).map (D.int .i64)) ++ [d]))]) ?_
            simp [hw1, hw2, chI]
        · have hna : ¬(l.all chk = true ∧ 1 ≤ l.length ∧ l.length ≤ 400) := fun h => hk (List.all_eq_true.1 h.1 _ (List.getElem_mem hlt))
          rw [if_neg hna]
          have hk2 : (l[i].toNat : Int) < 97 ∨ 97 ≤ (l[i].toNat : Int) ∧ 99 < (l[i].toNat : Int) := by
            simp only [chk, Bool.and_eq_true, decide_eq_true_eq] at hk
            omega
          generalize l[i] = c at *
          rcases hk2 with h | ⟨h, h'⟩
          · repeat (first | refine awp_seq ?_ | refine then_n ?_ | refine then_r ?_ | refine then_x ?_ | refine block_n ?_ | refine block_r ?_ | refine block_x ?_ | refine u_y ?_ | refine loop_r ?_ | refine loop_x ?_ | refine awp_region ?_ | refine awpL_nil ?_ | refine awpQL_nil ?_ | refine awp_block ?_ | refine awp_skip ?_ | refine awp_exit ?_ | refine awp_label ?_ | refine u_dT ?_ | refine u_d ?_ | ((first | apply x_l | apply x_q | apply x_lr | apply x_qr); (focus (first | (apply qa_strIndex; (iterate 6 (focus (first | exact rfl | (first | assumption | omega | (simp; omega) | (simp; done) | rfl))))))); exact rfl) | (apply v_x; (iterate 2 exact rfl); (focus (intro ok0 nw hle; (first | (apply qa_strIndex; (iterate 6 (focus (first | exact rfl | (first | assumption | omega | (simp; omega) | (simp; done) | rfl)))))))); (iterate 2 exact rfl)) | refine u_l ?_ | refine u_o ?_ | refine u_q ?_ | refine u_lr ?_ | refine u_qr ?_ | refine u_ls ?_ | refine u_qs ?_ | refine u_t ?_ | refine u_f ?_ | refine v_s ?_ | refine v_o ?_ | refine v_on ?_ | refine v_og ?_ | refine v_q ?_ | refine v_sr ?_ | refine v_k ?_ | refine m_nil ?_ | refine u_glt ?_ | refine u_glf ?_ | refine u_gqt ?_ | refine u_gqf ?_)
            (refine awp_ret ?_; (repeat (first | refine then_r ?_ | refine block_r ?_ | refine loop_r ?_)); apply ret_ok (.inr rfl); (focus exact rfl))
            rfl
          · repeat (first | refine awp_seq ?_ | refine then_n ?_ | refine then_r ?_ | refine then_x ?_ | refine block_n ?_ | refine block_r ?_ | refine block_x ?_ | refine u_y ?_ | refine loop_r ?_ | refine loop_x ?_ | refine awp_region ?_ | refine awpL_nil ?_ | refine awpQL_nil ?_ | refine awp_block ?_ | refine awp_skip ?_ | refine awp_exit ?_ | refine awp_label ?_ | refine u_dT ?_ | refine u_d ?_ | ((first | apply x_l | apply x_q | apply x_lr | apply x_qr); (focus (first | (apply qa_strIndex; (iterate 6 (focus (first | exact rfl | (first | assumption | omega | (simp; omega) | (simp; done) | rfl))))))); exact rfl) | (apply v_x; (iterate 2 exact rfl); (focus (intro ok0 nw hle; (first | (apply qa_strIndex; (iterate 6 (focus (first | exact rfl | (first | assumption | omega | (simp; omega) | (simp; done) | rfl)))))))); (iterate 2 exact rfl)) | refine u_l ?_ | refine u_o ?_ | refine u_q ?_ | refine u_lr ?_ | refine u_qr ?_ | refine u_ls ?_ | refine u_qs ?_ | refine u_t ?_ | refine u_f ?_ | refine v_s ?_ | refine v_o ?_ | refine v_on ?_ | refine v_og ?_ | refine v_q ?_ | refine v_sr ?_ | refine v_k ?_ | refine m_nil ?_ | refine u_glt ?_ | refine u_glf ?_ | refine u_gqt ?_ | refine u_gqf ?_)
            (refine awp_ret ?_; (repeat (first | refine then_r ?_ | refine block_r ?_ | refine loop_r ?_)); apply ret_ok (.inr rfl); (focus exact rfl))
            rfl
      · have hie : i = l.length := by omega
        subst hie
        rw [List.take_length] at hall ⊢
        have e1 := spec_l00In (n := ((l.map chI).map (D.int .i64)).length) (lo := 1) (hi := 400)
        have hlm : ((l.map chI).map (D.int .i64)).length = l.length := by simp
        by_cases hr : 1 ≤ l.length ∧ l.length ≤ 400
        · rw [if_pos ⟨hall, hr⟩]
          have hb : inB (((l.map chI).map (D.int .i64)).length : Nat) 1 400 = true := by
            simp only [inB, Bool.and_eq_true, decide_eq_true_eq]
            omega
          rw [hb] at e1
          repeat (first | refine awp_seq ?_ | refine then_n ?_ | refine then_r ?_ | refine then_x ?_ | refine block_n ?_ | refine block_r ?_ | refine block_x ?_ | refine u_y ?_ | refine loop_r ?_ | refine loop_x ?_ | refine awp_region ?_ | refine awpL_nil ?_ | refine awpQL_nil ?_ | refine awp_block ?_ | refine awp_skip ?_ | refine awp_exit ?_ | refine awp_label ?_ | refine u_dT ?_ | refine u_d ?_ | ((first | apply c_l | apply c_q | apply c_lr | apply c_qr); (iterate 2 exact rfl); (focus (first | exact e1)); (iterate 2 exact rfl)) | (apply v_c; (iterate 4 exact rfl); (focus (first | exact e1)); (iterate 2 exact rfl)) | refine u_l ?_ | refine u_o ?_ | refine u_q ?_ | refine u_lr ?_ | refine u_qr ?_ | refine u_ls ?_ | refine u_qs ?_ | refine u_t ?_ | refine u_f ?_ | refine v_s ?_ | refine v_o ?_ | refine v_on ?_ | refine v_og ?_ | refine v_q ?_ | refine v_sr ?_ | refine v_k ?_ | refine m_nil ?_)
          (refine awp_ret ?_; (repeat (first | refine then_r ?_ | refine block_r ?_ | refine loop_r ?_)); apply ret_ok (.inr rfl); (focus exact rfl))
          rfl
        · rw [if_neg (fun h => hr h.2)]
          have hb : inB (((l.map chI).map (D.int .i64)).length : Nat) 1 400 = false := by
            refine Bool.eq_false_iff.2 fun h => hr ?_
            simp only [inB, Bool.and_eq_true, decide_eq_true_eq] at h
            omega
          rw [hb] at e1
          repeat (first | refine awp_seq ?_ | refine then_n ?_ | refine then_r ?_ | refine then_x ?_ | refine block_n ?_ | refine block_r ?_ | refine block_x ?_ | refine u_y ?_ | refine loop_r ?_ | refine loop_x ?_ | refine awp_region ?_ | refine awpL_nil ?_ | refine awpQL_nil ?_ | refine awp_block ?_ | refine awp_skip ?_ | refine awp_exit ?_ | refine awp_label ?_ | refine u_dT ?_ | refine u_d ?_ | ((first | apply c_l | apply c_q | apply c_lr | apply c_qr); (iterate 2 exact rfl); (focus (first | exact e1)); (iterate 2 exact rfl)) | (apply v_c; (iterate 4 exact rfl); (focus (first | exact e1)); (iterate 2 exact rfl)) | refine u_l ?_ | refine u_o ?_ | refine u_q ?_ | refine u_lr ?_ | refine u_qr ?_ | refine u_ls ?_ | refine u_qs ?_ | refine u_t ?_ | refine u_f ?_ | refine v_s ?_ | refine v_o ?_ | refine v_on ?_ | refine v_og ?_ | refine v_q ?_ | refine v_sr ?_ | refine v_k ?_ | refine m_nil ?_)
          (refine awp_ret ?_; (repeat (first | refine then_r ?_ | refine block_r ?_ | refine loop_r ?_)); apply ret_ok (.inr rfl); (focus exact rfl))
          rfl

theorem impl_ReadWord {l : List UInt8} (hl : l.length ≤ 1048576) : AC Tryd.prog 25 [.str l] (.tup [ints ((rwS l).getD []), .int .i64 (rwE l)]) := by
  unfold rwE
  by_cases h45 : l = [45]
  · subst h45
    have e1 := impl_WordText (w := []) (by simp)
    have hr : rwS [45] = some [] := by decide
    have hx : wtx [] = [45] := by decide
    rw [hx] at e1
    rw [hr]
    refine ac_intro tabIs _ Tryd.func25 rfl rfl Tryd.ntmps25 rfl rfl fun w0 ok0 => ?_
    repeat (first | refine v_w (t := 6) ?_ | refine awp_seq ?_ | refine then_n ?_ | refine then_r ?_ | refine then_x ?_ | refine block_n ?_ | refine block_r ?_ | refine block_x ?_ | refine u_y ?_ | refine loop_r ?_ | refine loop_x ?_ | refine awp_region ?_ | refine awpL_nil ?_ | refine awpQL_nil ?_ | refine awp_block ?_ | refine awp_skip ?_ | refine awp_exit ?_ | refine awp_label ?_ | refine u_dT ?_ | refine u_d ?_ | refine u_w (t := 6) ?_ | refine u_l ?_ | refine u_o ?_ | refine u_q ?_ | refine u_lr ?_ | refine u_qr ?_ | refine u_ls ?_ | refine u_qs ?_ | refine u_t ?_ | refine u_f ?_ | refine v_s ?_ | refine v_o ?_ | refine v_on ?_ | refine v_og ?_ | refine v_q ?_ | refine v_sr ?_ | refine v_k ?_ | refine m_nil ?_)
    refine awp_loop (fun i : Nat => i ≤ 1) (fun i => [(0, .d (.str [45])), (4, .own 6), (8, .d (.int .i64 1)), (9, .d (.int .i64 i))]) (fun i => [(6, .arr 2 1 [])]) (fun i => 1 - i) 0 (by omega) ?_ rfl ?_
    · ((repeat (first | exact trivial | (refine ⟨?_, ?_⟩; (focus (first | rfl | (simp [lk, argsS, args0]; done) | (simp [lk, argsS, args0]; omega)))))))
    · intro i hi
      by_cases hlt : i < 1
      · repeat (first | refine awp_seq ?_ | refine then_n ?_ | refine then_r ?_ | refine then_x ?_ | refine block_n ?_ | refine block_r ?_ | refine block_x ?_ | refine u_y ?_ | refine loop_r ?_ | refine loop_x ?_ | refine awp_region ?_ | refine awpL_nil ?_ | refine awpQL_nil ?_ | refine awp_block ?_ | refine awp_skip ?_ | refine awp_exit ?_ | refine awp_label ?_ | refine u_dT ?_ | refine u_d ?_ | refine u_l ?_ | refine u_o ?_ | refine u_q ?_ | refine u_lr ?_ | refine u_qr ?_ | refine u_ls ?_ | refine u_qs ?_ | refine u_t ?_ | refine u_f ?_ | refine v_s ?_ | refine v_o ?_ | refine v_on ?_ | refine v_og ?_ | refine v_q ?_ | refine v_sr ?_ | refine v_k ?_ | refine m_nil ?_)
        refine loop_n (i + 1) (by omega) ?_ rfl (by omega)
        ((repeat (first | exact trivial | (refine ⟨?_, ?_⟩; (focus (first | rfl | (simp [lk, argsS, args0]; done) | (simp [lk, argsS, args0]; omega)))))))
      · have hie : i = 1 := by omega
        subst hie
        repeat (first | refine awp_seq ?_ | refine then_n ?_ | refine then_r ?_ | refine then_x ?_ | refine block_n ?_ | refine block_r ?_ | refine block_x ?_ | refine u_y ?_ | refine loop_r ?_ | refine loop_x ?_ | refine awp_region ?_ | refine awpL_nil ?_ | refine awpQL_nil ?_ | refine awp_block ?_ | refine awp_skip ?_ | refine awp_exit ?_ | refine awp_label ?_ | refine u_dT ?_ | refine u_d ?_ | refine u_l ?_ | refine u_o ?_ | refine u_q ?_ | refine u_lr ?_ | refine u_qr ?_ | refine u_ls ?_ | refine u_qs ?_ | refine u_t ?_ | refine u_f ?_ | refine v_s ?_ | refine v_o ?_ | refine v_on ?_ | refine v_og ?_ | refine v_q ?_ | refine v_sr ?_ | refine v_k ?_ | refine m_nil ?_)
        refine awpL_freeze 6 rfl rfl ?_
        repeat (first | refine awp_seq ?_ | refine then_n ?_ | refine then_r ?_ | refine then_x ?_ | refine block_n ?_ | refine block_r ?_ | refine block_x ?_ | refine u_y ?_ | refine loop_r ?_ | refine loop_x ?_ | refine awp_region ?_ | refine awpL_nil ?_ | refine awpQL_nil ?_ | refine awp_block ?_ | refine awp_skip ?_ | refine awp_exit ?_ | refine awp_label ?_ | refine u_dT ?_ | refine u_d ?_ | ((first | apply c_l | apply c_q | apply c_lr | apply c_qr); (iterate 2 exact rfl); (focus (first | exact e1)); (iterate 2 exact rfl)) | (apply v_c; (iterate 4 exact rfl); (focus (first | exact e1)); (iterate 2 exact rfl)) | refine u_l ?_ | refine u_o ?_ | refine u_q ?_ | refine u_lr ?_ | refine u_qr ?_ | refine u_ls ?_ | refine u_qs ?_ | refine u_t ?_ | refine u_f ?_ | refine v_s ?_ | refine v_o ?_ | refine v_on ?_ | refine v_og ?_ | refine v_q ?_ | refine v_sr ?_ | refine v_k ?_ | refine m_nil ?_ | refine u_glt ?_ | refine u_glf ?_ | refine u_gqt ?_ | refine u_gqf ?_)
        (refine awp_ret ?_; (repeat (first | refine then_r ?_ | refine block_r ?_ | refine loop_r ?_)); apply ret_ok (.inr rfl); (focus exact rfl))
        rfl
  have hd45 : decide (l = [45]) = false := decide_eq_false h45
  have hrd : rwd l = l.map chI := by unfold rwd; rw [if_neg h45]
  by_cases hn : l = []
  · have hr : rwS l = none := by rw [hn, rwS_nil]
    rw [hr]
    have hdn : decide (l = []) = true := decide_eq_true hn
    refine ac_nilR (n := 5) ?_
    refine ac_intro tabIs _ Tryd.func25 rfl rfl Tryd.ntmps25 rfl rfl fun w0 ok0 => ?_
    repeat (first | refine v_w (t := 6) ?_ | refine awp_seq ?_ | refine then_n ?_ | refine then_r ?_ | refine then_x ?_ | refine block_n ?_ | refine block_r ?_ | refine block_x ?_ | refine u_y ?_ | refine loop_r ?_ | refine loop_x ?_ | refine awp_region ?_ | refine awpL_nil ?_ | refine awpQL_nil ?_ | refine awp_block ?_ | refine awp_skip ?_ | refine awp_exit ?_ | refine awp_label ?_ | refine u_dT ?_ | refine u_d ?_ | refine u_w (t := 6) ?_ | refine u_l ?_ | refine u_o ?_ | refine u_q ?_ | refine u_lr ?_ | refine u_qr ?_ | refine u_ls ?_ | refine u_qs ?_ | refine u_t ?_ | refine u_f ?_ | refine v_s ?_ | refine v_o ?_ | refine v_on ?_ | refine v_og ?_ | refine v_q ?_ | refine v_sr ?_ | refine v_k ?_ | refine m_nil ?_)
    refine awp_loop (fun i : Nat => i ≤ l.length) (fun i => [(0, .d (.str l)), (4, .own 6), (8, .d (.int .i64 l.length)), (9, .d (.int .i64 i))]) (fun i => [(6, .arr 2 1 (((l.take i).map chI).map (.int .i64)))]) (fun i => l.length - i) 0 (by omega) ?_ rfl ?_
    · ((repeat (first | exact trivial | (refine ⟨?_, ?_⟩; (focus (first | rfl | (simp [lk, argsS, args0]; done) | (simp [lk, argsS, args0]; omega)))))))
    · intro i hi
      by_cases hlt : i < l.length
      · have hc : l[((i : Nat) : Int).toNat]? = some l[i] := by simp [hlt]
        have hst := List.take_succ_eq_append_getElem hlt
        have hlt2 := UInt8.toNat_lt l[i]
        have hw2 := i64_wrapW (n := (l[i].toNat : Int)) (by omega)
        generalize l[i] = c at *
        repeat (first | refine awp_seq ?_ | refine then_n ?_ | refine then_r ?_ | refine then_x ?_ | refine block_n ?_ | refine block_r ?_ | refine block_x ?_ | refine u_y ?_ | refine loop_r ?_ | refine loop_x ?_ | refine awp_region ?_ | refine awpL_nil ?_ | refine awpQL_nil ?_ | refine awp_block ?_ | refine awp_skip ?_ | refine awp_exit ?_ | refine awp_label ?_ | refine u_dT ?_ | refine u_d ?_ | ((first | apply x_l | apply x_q | apply x_lr | apply x_qr); (focus (first | (apply qa_strIndex; (iterate 6 (focus (first | exact rfl | (first | assumption | omega | (simp; omega) | (simp; done) | rfl))))))); exact rfl) | (apply v_x; (iterate 2 exact rfl); (focus (intro ok0 nw hle; (first | (apply qa_strIndex; (iterate 6 (focus (first | exact rfl | (first | assumption | omega | (simp; omega) | (simp; done) | rfl)))))))); (iterate 2 exact rfl)) | refine u_l ?_ | refine u_o ?_ | refine u_q ?_ | refine u_lr ?_ | refine u_qr ?_ | refine u_ls ?_ | refine u_qs ?_ | refine u_t ?_ | refine u_f ?_ | refine v_s ?_ | refine v_o ?_ | refine v_on ?_ | refine v_og ?_ | refine v_q ?_ | refine v_sr ?_ | refine v_k ?_ | refine m_nil ?_ | refine u_glt ?_ | refine u_glf ?_ | refine u_gqt ?_ | refine u_gqf ?_)
        refine loop_n (i + 1) (by omega) ?_ ?_ (by omega)
        · ((repeat (first | exact trivial | (refine ⟨?_, ?_⟩; (focus (first | rfl | (simp [lk, argsS, args0]; done) | (simp [lk, argsS, args0]; omega)))))))
        · rw [hst, List.map_append, List.map_append]
          refine congrArg (fun d => [(6, Chunk.arr 2 1 ((((l.take i).map chI).map (D.int .i64)) ++ [d]))]) ?_
          simp [hw2, chI]
      · have hie : i = l.length := by omega
        subst hie
        rw [List.take_length]
        have e1 := impl_WordText (w := l.map chI) (by simpa using hl)
        rw [← hrd] at e1 ⊢
        subst hn
        repeat (first | refine awp_seq ?_ | refine then_n ?_ | refine then_r ?_ | refine then_x ?_ | refine block_n ?_ | refine block_r ?_ | refine block_x ?_ | refine u_y ?_ | refine loop_r ?_ | refine loop_x ?_ | refine awp_region ?_ | refine awpL_nil ?_ | refine awpQL_nil ?_ | refine awp_block ?_ | refine awp_skip ?_ | refine awp_exit ?_ | refine awp_label ?_ | refine u_dT ?_ | refine u_d ?_ | refine u_l ?_ | refine u_o ?_ | refine u_q ?_ | refine u_lr ?_ | refine u_qr ?_ | refine u_ls ?_ | refine u_qs ?_ | refine u_t ?_ | refine u_f ?_ | refine v_s ?_ | refine v_o ?_ | refine v_on ?_ | refine v_og ?_ | refine v_q ?_ | refine v_sr ?_ | refine v_k ?_ | refine m_nil ?_)
        (refine awp_ret ?_; (repeat (first | refine then_r ?_ | refine block_r ?_ | refine loop_r ?_)); apply ret_ok (.inr rfl); (focus exact rfl))
        rfl
  have hdn : decide (l = []) = false := decide_eq_false hn
  by_cases hw : wtx (rwd l) = l
  · rw [(rwS_of hn).1 hw]
    refine ac_intro tabIs _ Tryd.func25 rfl rfl Tryd.ntmps25 rfl rfl fun w0 ok0 => ?_
    repeat (first | refine v_w (t := 6) ?_ | refine awp_seq ?_ | refine then_n ?_ | refine then_r ?_ | refine then_x ?_ | refine block_n ?_ | refine block_r ?_ | refine block_x ?_ | refine u_y ?_ | refine loop_r ?_ | refine loop_x ?_ | refine awp_region ?_ | refine awpL_nil ?_ | refine awpQL_nil ?_ | refine awp_block ?_ | refine awp_skip ?_ | refine awp_exit ?_ | refine awp_label ?_ | refine u_dT ?_ | refine u_d ?_ | refine u_w (t := 6) ?_ | refine u_l ?_ | refine u_o ?_ | refine u_q ?_ | refine u_lr ?_ | refine u_qr ?_ | refine u_ls ?_ | refine u_qs ?_ | refine u_t ?_ | refine u_f ?_ | refine v_s ?_ | refine v_o ?_ | refine v_on ?_ | refine v_og ?_ | refine v_q ?_ | refine v_sr ?_ | refine v_k ?_ | refine m_nil ?_)
    refine awp_loop (fun i : Nat => i ≤ l.length) (fun i => [(0, .d (.str l)), (4, .own 6), (8, .d (.int .i64 l.length)), (9, .d (.int .i64 i))]) (fun i => [(6, .arr 2 1 (((l.take i).map chI).map (.int .i64)))]) (fun i => l.length - i) 0 (by omega) ?_ rfl ?_
    · ((repeat (first | exact trivial | (refine ⟨?_, ?_⟩; (focus (first | rfl | (simp [lk, argsS, args0]; done) | (simp [lk, argsS, args0]; omega)))))))
    · intro i hi
      by_cases hlt : i < l.length
      · have hc : l[((i : Nat) : Int).toNat]? = some l[i] := by simp [hlt]
        have hst := List.take_succ_eq_append_getElem hlt
        have hlt2 := UInt8.toNat_lt l[i]
        have hw2 := i64_wrapW (n := (l[i].toNat : Int)) (by omega)
        generalize l[i] = c at *
        repeat (first | refine awp_seq ?_ | refine then_n ?_ | refine then_r ?_ | refine then_x ?_ | refine block_n ?_ | refine block_r ?_ | refine block_x ?_ | refine u_y ?_ | refine loop_r ?_ | refine loop_x ?_ | refine awp_region ?_ | refine awpL_nil ?_ | refine awpQL_nil ?_ | refine awp_block ?_ | refine awp_skip ?_ | refine awp_exit ?_ | refine awp_label ?_ | refine u_dT ?_ | refine u_d ?_ | ((first | apply x_l | apply x_q | apply x_lr | apply x_qr); (focus (first | (apply qa_strIndex; (iterate 6 (focus (first | exact rfl | (first | assumption | omega | (simp; omega) | (simp; done) | rfl))))))); exact rfl) | (apply v_x; (iterate 2 exact rfl); (focus (intro ok0 nw hle; (first | (apply qa_strIndex; (iterate 6 (focus (first | exact rfl | (first | assumption | omega | (simp; omega) | (simp; done) | rfl)))))))); (iterate 2 exact rfl)) | refine u_l ?_ | refine u_o ?_ | refine u_q ?_ | refine u_lr ?_ | refine u_qr ?_ | refine u_ls ?_ | refine u_qs ?_ | refine u_t ?_ | refine u_f ?_ | refine v_s ?_ | refine v_o ?_ | refine v_on ?_ | refine v_og ?_ | refine v_q ?_ | refine v_sr ?_ | refine v_k ?_ | refine m_nil ?_ | refine u_glt ?_ | refine u_glf ?_ | refine u_gqt ?_ | refine u_gqf ?_)
        refine loop_n (i + 1) (by omega) ?_ ?_ (by omega)
        · ((repeat (first | exact trivial | (refine ⟨?_, ?_⟩; (focus (first | rfl | (simp [lk, argsS, args0]; done) | (simp [lk, argsS, args0]; omega)))))))
        · rw [hst, List.map_append, List.map_append]
          refine congrArg (fun d => [(6, Chunk.arr 2 1 ((((l.take i).map chI).map (D.int .i64)) ++ [d]))]) ?_
          simp [hw2, chI]
      · have hie : i = l.length := by omega
        subst hie
        rw [List.take_length]
        have e1 := impl_WordText (w := l.map chI) (by simpa using hl)
        rw [← hrd] at e1 ⊢
        rw [hw] at e1
        generalize rwd l = rw at *
        repeat (first | refine awp_seq ?_ | refine then_n ?_ | refine then_r ?_ | refine then_x ?_ | refine block_n ?_ | refine block_r ?_ | refine block_x ?_ | refine u_y ?_ | refine loop_r ?_ | refine loop_x ?_ | refine awp_region ?_ | refine awpL_nil ?_ | refine awpQL_nil ?_ | refine awp_block ?_ | refine awp_skip ?_ | refine awp_exit ?_ | refine awp_label ?_ | refine u_dT ?_ | refine u_d ?_ | refine u_l ?_ | refine u_o ?_ | refine u_q ?_ | refine u_lr ?_ | refine u_qr ?_ | refine u_ls ?_ | refine u_qs ?_ | refine u_t ?_ | refine u_f ?_ | refine v_s ?_ | refine v_o ?_ | refine v_on ?_ | refine v_og ?_ | refine v_q ?_ | refine v_sr ?_ | refine v_k ?_ | refine m_nil ?_)
        refine awpL_freeze 6 rfl rfl ?_
        repeat (first | refine awp_seq ?_ | refine then_n ?_ | refine then_r ?_ | refine then_x ?_ | refine block_n ?_ | refine block_r ?_ | refine block_x ?_ | refine u_y ?_ | refine loop_r ?_ | refine loop_x ?_ | refine awp_region ?_ | refine awpL_nil ?_ | refine awpQL_nil ?_ | refine awp_block ?_ | refine awp_skip ?_ | refine awp_exit ?_ | refine awp_label ?_ | refine u_dT ?_ | refine u_d ?_ | ((first | apply c_l | apply c_q | apply c_lr | apply c_qr); (iterate 2 exact rfl); (focus (first | exact e1)); (iterate 2 exact rfl)) | (apply v_c; (iterate 4 exact rfl); (focus (first | exact e1)); (iterate 2 exact rfl)) | refine u_l ?_ | refine u_o ?_ | refine u_q ?_ | refine u_lr ?_ | refine u_qr ?_ | refine u_ls ?_ | refine u_qs ?_ | refine u_t ?_ | refine u_f ?_ | refine v_s ?_ | refine v_o ?_ | refine v_on ?_ | refine v_og ?_ | refine v_q ?_ | refine v_sr ?_ | refine v_k ?_ | refine m_nil ?_ | refine u_glt ?_ | refine u_glf ?_ | refine u_gqt ?_ | refine u_gqf ?_)
        (refine awp_ret ?_; (repeat (first | refine then_r ?_ | refine block_r ?_ | refine loop_r ?_)); apply ret_ok (.inr rfl); (focus exact rfl))
        rfl
  · have hdw : decide (wtx (rwd l) = l) = false := decide_eq_false hw
    have hnone : rwS l = none := by
      cases hh : rwS l with
      | none => rfl
      | some v =>
        have := rwS_eq hh
        subst this
        exact absurd ((rwS_of hn).2 hh) hw
    rw [hnone]
    refine ac_nilR (n := 5) ?_
    refine ac_intro tabIs _ Tryd.func25 rfl rfl Tryd.ntmps25 rfl rfl fun w0 ok0 => ?_
    repeat (first | refine v_w (t := 6) ?_ | refine awp_seq ?_ | refine then_n ?_ | refine then_r ?_ | refine then_x ?_ | refine block_n ?_ | refine block_r ?_ | refine block_x ?_ | refine u_y ?_ | refine loop_r ?_ | refine loop_x ?_ | refine awp_region ?_ | refine awpL_nil ?_ | refine awpQL_nil ?_ | refine awp_block ?_ | refine awp_skip ?_ | refine awp_exit ?_ | refine awp_label ?_ | refine u_dT ?_ | refine u_d ?_ | refine u_w (t := 6) ?_ | refine u_l ?_ | refine u_o ?_ | refine u_q ?_ | refine u_lr ?_ | refine u_qr ?_ | refine u_ls ?_ | refine u_qs ?_ | refine u_t ?_ | refine u_f ?_ | refine v_s ?_ | refine v_o ?_ | refine v_on ?_ | refine v_og ?_ | refine v_q ?_ | refine v_sr ?_ | refine v_k ?_ | refine m_nil ?_)
    refine awp_loop (fun i : Nat => i ≤ l.length) (fun i => [(0, .d (.str l)), (4, .own 6), (8, .d (.int .i64 l.length)), (9, .d (.int .i64 i))]) (fun i => [(6, .arr 2 1 (((l.take i).map chI).map (.int .i64)))]) (fun i => l.length - i) 0 (by omega) ?_ rfl ?_
    · ((repeat (first | exact trivial | (refine ⟨?_, ?_⟩; (focus (first | rfl | (simp [lk, argsS, args0]; done) | (simp [lk, argsS, args0]; omega)))))))
    · intro i hi
      by_cases hlt : i < l.length
      · have hc : l[((i : Nat) : Int).toNat]? = some l[i] := by simp [hlt]
        have hst := List.take_succ_eq_append_getElem hlt
        have hlt2 := UInt8.toNat_lt l[i]
        have hw2 := i64_wrapW (n := (l[i].toNat : Int)) (by omega)
        generalize l[i] = c at *
        repeat (first | refine awp_seq ?_ | refine then_n ?_ | refine then_r ?_ | refine then_x ?_ | refine block_n ?_ | refine block_r ?_ | refine block_x ?_ | refine u_y ?_ | refine loop_r ?_ | refine loop_x ?_ | refine awp_region ?_ | refine awpL_nil ?_ | refine awpQL_nil ?_ | refine awp_block ?_ | refine awp_skip ?_ | refine awp_exit ?_ | refine awp_label ?_ | refine u_dT ?_ | refine u_d ?_ | ((first | apply x_l | apply x_q | apply x_lr | apply x_qr); (focus (first | (apply qa_strIndex; (iterate 6 (focus (first | exact rfl | (first | assumption | omega | (simp; omega) | (simp; done) | rfl))))))); exact rfl) | (apply v_x; (iterate 2 exact rfl); (focus (intro ok0 nw hle; (first | (apply qa_strIndex; (iterate 6 (focus (first | exact rfl | (first | assumption | omega | (simp; omega) | (simp; done) | rfl)))))))); (iterate 2 exact rfl)) | refine u_l ?_ | refine u_o ?_ | refine u_q ?_ | refine u_lr ?_ | refine u_qr ?_ | refine u_ls ?_ | refine u_qs ?_ | refine u_t ?_ | refine u_f ?_ | refine v_s ?_ | refine v_o ?_ | refine v_on ?_ | refine v_og ?_ | refine v_q ?_ | refine v_sr ?_ | refine v_k ?_ | refine m_nil ?_ | refine u_glt ?_ | refine u_glf ?_ | refine u_gqt ?_ | refine u_gqf ?_)
        refine loop_n (i + 1) (by omega) ?_ ?_ (by omega)
        · ((repeat (first | exact trivial | (refine ⟨?_, ?_⟩; (focus (first | rfl | (simp [lk, argsS, args0]; done) | (simp [lk, argsS, args0]; omega)))))))
        · rw [hst, List.map_append, List.map_append]
          refine congrArg (fun d => [(6, Chunk.arr 2 1 ((((l.take i).map chI).map (D.int .i64)) ++ [d]))]) ?_
          simp [hw2, chI]
      · have hie : i = l.length := by omega
        subst hie
        rw [List.take_length]
        have e1 := impl_WordText (w := l.map chI) (by simpa using hl)
        rw [← hrd] at e1 ⊢
        generalize rwd l = rw at *
        generalize wtx rw = tx at *
        repeat (first | refine awp_seq ?_ | refine then_n ?_ | refine then_r ?_ | refine then_x ?_ | refine block_n ?_ | refine block_r ?_ | refine block_x ?_ | refine u_y ?_ | refine loop_r ?_ | refine loop_x ?_ | refine awp_region ?_ | refine awpL_nil ?_ | refine awpQL_nil ?_ | refine awp_block ?_ | refine awp_skip ?_ | refine awp_exit ?_ | refine awp_label ?_ | refine u_dT ?_ | refine u_d ?_ | refine u_l ?_ | refine u_o ?_ | refine u_q ?_ | refine u_lr ?_ | refine u_qr ?_ | refine u_ls ?_ | refine u_qs ?_ | refine u_t ?_ | refine u_f ?_ | refine v_s ?_ | refine v_o ?_ | refine v_on ?_ | refine v_og ?_ | refine v_q ?_ | refine v_sr ?_ | refine v_k ?_ | refine m_nil ?_)
        refine awpL_freeze 6 rfl rfl ?_
        repeat (first | refine awp_seq ?_ | refine then_n ?_ | refine then_r ?_ | refine then_x ?_ | refine block_n ?_ | refine block_r ?_ | refine block_x ?_ | refine u_y ?_ | refine loop_r ?_ | refine loop_x ?_ | refine awp_region ?_ | refine awpL_nil ?_ | refine awpQL_nil ?_ | refine awp_block ?_ | refine awp_skip ?_ | refine awp_exit ?_ | refine awp_label ?_ | refine u_dT ?_ | refine u_d ?_ | ((first | apply c_l | apply c_q | apply c_lr | apply c_qr); (iterate 2 exact rfl); (focus (first | exact e1)); (iterate 2 exact rfl)) | (apply v_c; (iterate 4 exact rfl); (focus (first | exact e1)); (iterate 2 exact rfl)) | refine u_l ?_ | refine u_o ?_ | refine u_q ?_ | refine u_lr ?_ | refine u_qr ?_ | refine u_ls ?_ | refine u_qs ?_ | refine u_t ?_ | refine u_f ?_ | refine v_s ?_ | refine v_o ?_ | refine v_on ?_ | refine v_og ?_ | refine v_q ?_ | refine v_sr ?_ | refine v_k ?_ | refine m_nil ?_ | refine u_glt ?_ | refine u_glf ?_ | refine u_gqt ?_ | refine u_gqf ?_)
        (refine awp_ret ?_; (repeat (first | refine then_r ?_ | refine block_r ?_ | refine loop_r ?_)); apply ret_ok (.inr rfl); (focus exact rfl))
        rfl
end Go.Proofs.YtfondjnjdcijaaaDoor
