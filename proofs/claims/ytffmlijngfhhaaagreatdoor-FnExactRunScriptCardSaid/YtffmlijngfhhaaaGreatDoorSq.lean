/- Texts cut at blanks, in plain words; the reference's l01Split at a blank. Condition: the text is no longer than a million. -/
import Derived.Test.YtffmlijngfhhaaaGreatDoorRw
namespace Go.Proofs.YtffmlijngfhhaaaGreatDoor
open Go
attribute [local irreducible] awp awpL awpQL awpQ awpM pWalk Qt AC thenQ blockQ loopQ OpTo
set_option linter.unusedVariables false
set_option linter.unusedSimpArgs false
set_option maxHeartbeats 2000000
attribute [local irreducible] HC

/-! ### Plain -/
def bls : List UInt8 → List (List UInt8)
  | [] => [[]]
  | c :: r => if c = 32 then [] :: bls r else match bls r with
    | [] => [[c]]
    | h :: t => (c :: h) :: t
theorem bls_ne (l : List UInt8) : bls l ≠ [] := by
  cases l with
  | nil => simp [bls]
  | cons c r =>
    unfold bls
    split
    · simp
    · split <;> simp
theorem bls_no {l : List UInt8} (h : ∀ c ∈ l, c ≠ 32) : bls l = [l] := by
  induction l with
  | nil => rfl
  | cons c r ih =>
    rw [bls, if_neg (h c (by simp)), ih fun x hx => h x (by simp [hx])]
theorem bls_at {a b : List UInt8} (h : ∀ c ∈ a, c ≠ 32) : bls (a ++ 32 :: b) = a :: bls b := by
  induction a with
  | nil => simp [bls]
  | cons c r ih =>
    rw [List.cons_append, bls, if_neg (h c (by simp)), ih fun x hx => h x (by simp [hx])]
/-- The pieces, joined, are the text. -/
theorem bls_join (l : List UInt8) : ∀ init last, bls l = init ++ [last] → (init.flatMap fun p => p ++ [32]) ++ last = l := by
  induction l with
  | nil =>
    intro init last h
    cases init with
    | nil => simp [bls] at h; simp [h]
    | cons p q => cases q <;> simp [bls] at h
  | cons c r ih =>
    intro init last h
    rw [bls] at h
    by_cases hc : c = 32
    · rw [if_pos hc] at h
      cases init with
      | nil =>
        simp only [List.nil_append, List.cons.injEq] at h
        exact absurd h.2 (bls_ne r)
      | cons p q =>
        simp only [List.cons_append, List.cons.injEq] at h
        have := ih q last h.2
        rw [← h.1]
        simp only [List.flatMap_cons, List.nil_append, List.cons_append, List.append_assoc]
        rw [this, hc]
    · rw [if_neg hc] at h
      cases hr : bls r with
      | nil => exact absurd hr (bls_ne r)
      | cons p q =>
        rw [hr] at h
        simp only at h
        cases init with
        | nil =>
          simp only [List.nil_append, List.cons.injEq] at h
          have := ih [] p (by rw [hr, h.2]; rfl)
          rw [← h.1]
          simpa using this
        | cons x y =>
          simp only [List.cons_append, List.cons.injEq] at h
          have := ih (p :: y) last (by rw [hr, h.2]; rfl)
          rw [← h.1]
          simp only [List.flatMap_cons, List.cons_append, List.append_assoc] at this ⊢
          rw [this]

theorem bls_len (l : List UInt8) : (bls l).length ≤ l.length + 1 := by
  induction l with
  | nil => simp [bls]
  | cons c r ih =>
    rw [bls]
    split
    · simp; exact ih
    · split
      · simp
      · rename_i h t e
        rw [e] at ih
        simp at ih ⊢
        omega

theorem cut_atB {l : List UInt8} {f i : Nat} (hf : f ≤ i) (hi : i < l.length) : l.drop f = (l.drop f).take (i - f) ++ l[i] :: l.drop (i + 1) := by
  have h1 : (l.drop f).drop (i - f) = l[i] :: l.drop (i + 1) := by
    rw [List.drop_drop, show f + (i - f) = i by omega]
    exact List.drop_eq_getElem_cons hi
  rw [← h1, List.take_append_drop]
theorem take_dropB {l : List UInt8} {f i : Nat} : (l.drop f).take (i - f) = (l.take i).drop f := by
  rw [List.drop_take]

theorem spec_l01SplitB {l : List UInt8} (hl : l.length ≤ 1048576) : AC Tryz.prog 85 [.str l, .int .u8 32] (.lst ((bls l).map .str)) := by
  refine ac_intro tabIs _ Tryz.func85 rfl rfl Tryz.ntmps85 rfl rfl fun w0 ok0 he0 => ?_
  repeat (first | refine v_w (t := 8) ?_ | refine awp_seq ?_ | refine then_n ?_ | refine then_r ?_ | refine then_x ?_ | refine block_n ?_ | refine block_r ?_ | refine block_x ?_ | refine u_y ?_ | refine loop_r ?_ | refine loop_x ?_ | refine awp_region ?_ | refine awpL_nil ?_ | refine awpQL_nil ?_ | refine awp_block ?_ | refine awp_skip ?_ | refine awp_exit ?_ | refine awp_label ?_ | refine u_dT ?_ | refine u_d ?_ | refine u_w (t := 8) ?_ | refine u_l ?_ | refine u_o ?_ | refine u_q ?_ | refine u_lr ?_ | refine u_qr ?_ | refine u_ls ?_ | refine u_qs ?_ | refine u_t ?_ | refine u_f ?_ | refine v_s ?_ | refine v_o ?_ | refine v_on ?_ | refine v_og ?_ | refine v_q ?_ | refine v_sr ?_ | refine v_k ?_ | refine m_nil ?_)
  refine awp_loop (fun p : Nat × Nat × List (List UInt8) => p.2.1 ≤ p.1 ∧ p.1 ≤ l.length ∧ (∀ c ∈ (l.drop p.2.1).take (p.1 - p.2.1), c ≠ 32) ∧ bls l = p.2.2 ++ bls (l.drop p.2.1) ∧ p.2.2.length ≤ p.1) (fun p => [(0, .d (.str l)), (1, .d (.int .u8 32)), (5, .own 8), (6, .d (.int .i64 p.2.1)), (7, .d (.int .i64 p.1))]) (fun p => [(8, .arr 9 1 (p.2.2.map .str))]) (fun p => l.length - p.1) (0, 0, []) ⟨by simp, by simp, by simp, by simp, by simp⟩ ?_ rfl ?_
  · ((repeat (first | exact trivial | (refine ⟨?_, ?_⟩; (focus (first | rfl | (simp [lk, argsS, args0]; done) | (simp [lk, argsS, args0]; omega)))))))
  · rintro ⟨i, f, d⟩ ⟨hf, hi, hno, heq, hdl⟩
    simp only at hf hi hno heq hdl ⊢
    by_cases hlt : i < l.length
    · have hc : l[((i : Nat) : Int).toNat]? = some l[i] := by simp [hlt]
      by_cases h10 : l[i] = 32
      · have hd : decide (((l[i].toNat : Nat) : Int) = 32) = true := by rw [h10]; rfl
        have hcut : bls (l.drop f) = ((l.drop f).take (i - f)) :: bls (l.drop (i + 1)) := by
          conv => lhs; rw [cut_atB hf hlt, h10]
          exact bls_at hno
        generalize l[i] = c at *
        repeat (first | refine awp_seq ?_ | refine then_n ?_ | refine then_r ?_ | refine then_x ?_ | refine block_n ?_ | refine block_r ?_ | refine block_x ?_ | refine u_y ?_ | refine loop_r ?_ | refine loop_x ?_ | refine awp_region ?_ | refine awpL_nil ?_ | refine awpQL_nil ?_ | refine awp_block ?_ | refine awp_skip ?_ | refine awp_exit ?_ | refine awp_label ?_ | refine u_dT ?_ | refine u_d ?_ | ((first | apply x_l | apply x_q | apply x_lr | apply x_qr); (focus (first | (apply qa_strIndex; (iterate 6 (focus (first | exact rfl | (first | assumption | omega | (simp; omega) | (simp; done) | rfl))))) | (apply qa_strSlice_lh; (iterate 8 (focus (first | exact rfl | (first | assumption | omega | (simp; omega) | (simp; done) | rfl))))))); exact rfl) | (apply v_x; (iterate 2 exact rfl); (focus (intro ok0 nw hle; (first | (apply qa_strIndex; (iterate 6 (focus (first | exact rfl | (first | assumption | omega | (simp; omega) | (simp; done) | rfl))))) | (apply qa_strSlice_lh; (iterate 8 (focus (first | exact rfl | (first | assumption | omega | (simp; omega) | (simp; done) | rfl)))))))); (iterate 2 exact rfl)) | refine u_l ?_ | refine u_o ?_ | refine u_q ?_ | refine u_lr ?_ | refine u_qr ?_ | refine u_ls ?_ | refine u_qs ?_ | refine u_t ?_ | refine u_f ?_ | refine v_s ?_ | refine v_o ?_ | refine v_on ?_ | refine v_og ?_ | refine v_q ?_ | refine v_sr ?_ | refine v_k ?_ | refine m_nil ?_)
        refine loop_n ((i + 1, i + 1, d ++ [(l.drop f).take (i - f)]) : Nat × Nat × List (List UInt8)) ⟨Nat.le_refl _, hlt, by simp, by show bls l = (d ++ [(l.drop f).take (i - f)]) ++ bls (l.drop (i + 1)); rw [heq, hcut]; simp, by simp; omega⟩ ?_ ?_ (by simp; omega)
        · ((repeat (first | exact trivial | (refine ⟨?_, ?_⟩; (focus (first | rfl | (simp [lk, argsS, args0]; done) | (simp [lk, argsS, args0]; omega)))))))
        · exact congrArg (fun x => [(8, Chunk.arr 9 1 x)]) (List.map_append (f := D.str) (l₁ := d) (l₂ := [(l.drop f).take (i - f)]))
      · have hd : decide (((l[i].toNat : Nat) : Int) = 32) = false := decide_eq_false fun e => h10 (UInt8.toNat_inj.1 (show l[i].toNat = 32 by omega))
        have hno' : ∀ c ∈ (l.drop f).take (i + 1 - f), c ≠ 32 := by
          intro c hc'
          rw [take_dropB, List.take_succ_eq_append_getElem hlt, List.drop_append_of_le_length (by simp; omega), ← take_dropB, List.mem_append] at hc'
          rcases hc' with h | h
          · exact hno c h
          · simp at h; rw [h]; exact h10
        generalize l[i] = c at *
        repeat (first | refine awp_seq ?_ | refine then_n ?_ | refine then_r ?_ | refine then_x ?_ | refine block_n ?_ | refine block_r ?_ | refine block_x ?_ | refine u_y ?_ | refine loop_r ?_ | refine loop_x ?_ | refine awp_region ?_ | refine awpL_nil ?_ | refine awpQL_nil ?_ | refine awp_block ?_ | refine awp_skip ?_ | refine awp_exit ?_ | refine awp_label ?_ | refine u_dT ?_ | refine u_d ?_ | ((first | apply x_l | apply x_q | apply x_lr | apply x_qr); (focus (first | (apply qa_strIndex; (iterate 6 (focus (first | exact rfl | (first | assumption | omega | (simp; omega) | (simp; done) | rfl))))))); exact rfl) | (apply v_x; (iterate 2 exact rfl); (focus (intro ok0 nw hle; (first | (apply qa_strIndex; (iterate 6 (focus (first | exact rfl | (first | assumption | omega | (simp; omega) | (simp; done) | rfl)))))))); (iterate 2 exact rfl)) | refine u_l ?_ | refine u_o ?_ | refine u_q ?_ | refine u_lr ?_ | refine u_qr ?_ | refine u_ls ?_ | refine u_qs ?_ | refine u_t ?_ | refine u_f ?_ | refine v_s ?_ | refine v_o ?_ | refine v_on ?_ | refine v_og ?_ | refine v_q ?_ | refine v_sr ?_ | refine v_k ?_ | refine m_nil ?_)
        refine loop_n ((i + 1, f, d) : Nat × Nat × List (List UInt8)) ⟨Nat.le_succ_of_le hf, hlt, hno', heq, Nat.le_succ_of_le hdl⟩ ?_ rfl (by simp; omega)
        ((repeat (first | exact trivial | (refine ⟨?_, ?_⟩; (focus (first | rfl | (simp [lk, argsS, args0]; done) | (simp [lk, argsS, args0]; omega)))))))
    · have hie : i = l.length := by omega
      subst hie
      rw [List.take_of_length_le (by simp)] at hno
      rw [heq, bls_no hno]
      repeat (first | refine awp_seq ?_ | refine then_n ?_ | refine then_r ?_ | refine then_x ?_ | refine block_n ?_ | refine block_r ?_ | refine block_x ?_ | refine u_y ?_ | refine loop_r ?_ | refine loop_x ?_ | refine awp_region ?_ | refine awpL_nil ?_ | refine awpQL_nil ?_ | refine awp_block ?_ | refine awp_skip ?_ | refine awp_exit ?_ | refine awp_label ?_ | refine u_dT ?_ | refine u_d ?_ | ((first | apply x_l | apply x_q | apply x_lr | apply x_qr); (focus (first | (apply qa_strSlice_l; (iterate 6 (focus (first | exact rfl | (first | assumption | omega | (simp; omega) | (simp; done) | rfl))))))); exact rfl) | (apply v_x; (iterate 2 exact rfl); (focus (intro ok0 nw hle; (first | (apply qa_strSlice_l; (iterate 6 (focus (first | exact rfl | (first | assumption | omega | (simp; omega) | (simp; done) | rfl)))))))); (iterate 2 exact rfl)) | refine u_l ?_ | refine u_o ?_ | refine u_q ?_ | refine u_lr ?_ | refine u_qr ?_ | refine u_ls ?_ | refine u_qs ?_ | refine u_t ?_ | refine u_f ?_ | refine v_s ?_ | refine v_o ?_ | refine v_on ?_ | refine v_og ?_ | refine v_q ?_ | refine v_sr ?_ | refine v_k ?_ | refine m_nil ?_)
      (refine awp_ret ?_; (repeat (first | refine then_r ?_ | refine block_r ?_ | refine loop_r ?_)); apply ret_ok (.inr rfl); (focus exact rfl))
      simp
end Go.Proofs.YtffmlijngfhhaaaGreatDoor
