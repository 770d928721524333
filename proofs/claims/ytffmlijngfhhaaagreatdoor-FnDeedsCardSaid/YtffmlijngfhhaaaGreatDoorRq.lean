/- Deeds read from texts: what a text says, the reference's and the program's ReadDeed, and that they say the same. Condition: the variables of strconv are laid. -/
import Derived.Test.YtffmlijngfhhaaaGreatDoorSq
import Derived.Test.YtffmlijngfhhaaaGreatDoorEi
import Derived.Test.YtffmlijngfhhaaaGreatDoorPi
namespace Go.Proofs.YtffmlijngfhhaaaGreatDoor
open Go
attribute [local irreducible] awp awpL awpQL awpQ awpM pWalk Qt AC thenQ blockQ loopQ OpTo
set_option linter.unusedVariables false
set_option linter.unusedSimpArgs false
set_option maxHeartbeats 2000000
attribute [local irreducible] HC
open Go.Lib (itoa)

/-! ### Plain -/
/-- The kind, below some, with a word; 0 if there is none. -/
def kUp (w : List UInt8) : Nat → Int
  | 0 => 0
  | j + 1 => if 1 ≤ j ∧ dwords.getD j [] = w then (j : Int) else kUp w j
def kOf (w : List UInt8) : Int := kUp w 10
theorem kUp_range (w : List UInt8) : ∀ j, 0 ≤ kUp w j ∧ (kUp w j ≠ 0 → kUp w j < j ∧ dword (kUp w j) = w)
  | 0 => by simp [kUp]
  | j + 1 => by
    rw [kUp]
    split
    · rename_i h
      refine ⟨by omega, fun _ => ⟨by omega, ?_⟩⟩
      unfold dword
      rw [if_pos (by omega)]
      exact h.2
    · obtain ⟨h1, h2⟩ := kUp_range w j
      exact ⟨h1, fun h => ⟨by have := (h2 h).1; omega, (h2 h).2⟩⟩
theorem kOf_range (w : List UInt8) : 0 ≤ kOf w ∧ kOf w ≤ 9 := by
  have := kUp_range w 10
  unfold kOf
  by_cases h : kUp w 10 = 0
  · omega
  · have := (this.2 h).1; omega
theorem kOf_word {w : List UInt8} (h : kOf w ≠ 0) : dword (kOf w) = w := ((kUp_range w 10).2 h).2
theorem dwordSplit {k : Int} (h : inB k 1 9 = true) : kOf (dword k) = k ∧ (∀ c ∈ dword k, c ≠ 32) := by
  simp only [inB, Bool.and_eq_true, decide_eq_true_eq] at h
  have : k = 1 ∨ k = 2 ∨ k = 3 ∨ k = 4 ∨ k = 5 ∨ k = 6 ∨ k = 7 ∨ k = 8 ∨ k = 9 := by omega
  rcases this with rfl | rfl | rfl | rfl | rfl | rfl | rfl | rfl | rfl <;> exact ⟨by decide, by decide⟩
theorem itoa_no32 {n : Int} (h : 0 ≤ n) : ∀ c ∈ itoa n, c ≠ 32 := fun c hc e => by
  have := List.all_eq_true.1 (itoa_all h) c hc
  have := isDig_iff.1 this
  rw [e] at this
  simp at this

/-- The deed whose text has these parts. -/
def rdL : List (List UInt8) → Option (Int × Int)
  | [] => none
  | [x] => if kOf x = 0 ∨ dtell (kOf x) = true then none else some (kOf x, 0)
  | [x, y] => if kOf x = 0 ∨ dtell (kOf x) = false then none else match numV y with
    | none => none
    | some n => if vdeed (kOf x) n = true then some (kOf x, n) else none
  | _ :: _ :: _ :: _ => none
theorem rdL1 (x : List UInt8) : rdL [x] = if kOf x = 0 ∨ dtell (kOf x) = true then none else some (kOf x, 0) := rfl
theorem rdL2 (x y : List UInt8) : rdL [x, y] = if kOf x = 0 ∨ dtell (kOf x) = false then none else match numV y with
    | none => none
    | some n => if vdeed (kOf x) n = true then some (kOf x, n) else none := rfl
/-- The deed with a text. -/
def rd (l : List UInt8) : Option (Int × Int) := rdL (bls l)
def rdV (l : List UInt8) : D := match rd l with
  | some (k, a) => .tup [.agg [.int .i64 k, .int .i64 a], .int .i64 0]
  | none => .tup [.agg [.int .i64 0, .int .i64 0], .int .i64 5]

theorem vdeed_k {k a : Int} (h : vdeed k a = true) : inB k 1 9 = true ∧ 0 ≤ a ∧ a ≤ 999 ∧ (dtell k = false → a = 0) := by
  simp only [vdeed, Bool.and_eq_true, Bool.or_eq_true, decide_eq_true_eq] at h
  obtain ⟨⟨h1, h2⟩, h3⟩ := h
  simp only [inB, Bool.and_eq_true, decide_eq_true_eq] at h2
  refine ⟨h1, h2.1, h2.2, fun h => ?_⟩
  rcases h3 with h3 | h3
  · rw [h] at h3; cases h3
  · exact h3
theorem bls_dtxt {k a : Int} (h : vdeed k a = true) : bls (dtxt k a) = if dtell k = true then [dword k, itoa a] else [dword k] := by
  obtain ⟨h1, h2, h3, h4⟩ := vdeed_k h
  have hw := (dwordSplit h1).2
  unfold dtxt
  rw [if_pos h]
  split
  · rw [bls_at hw, bls_no (itoa_no32 h2)]
  · exact bls_no hw
theorem rd_dtxt {k a : Int} (h : vdeed k a = true) : rd (dtxt k a) = some (k, a) := by
  obtain ⟨h1, h2, h3, h4⟩ := vdeed_k h
  have hk := (dwordSplit h1).1
  have hb := bls_dtxt h
  have hk0 : k ≠ 0 := by
    simp only [inB, Bool.and_eq_true, decide_eq_true_eq] at h1
    omega
  unfold rd
  rw [hb]
  cases ht : dtell k with
  | true =>
    rw [if_pos rfl, rdL2, hk, numV_itoa h2 (by omega)]
    simp [hk0, ht, h]
  | false =>
    have := h4 ht
    subst this
    rw [if_neg (by decide), rdL1, hk]
    simp [hk0, ht]
theorem bls_join1 {l a : List UInt8} (h : bls l = [a]) : l = a := by
  have := bls_join l [] a h
  simpa using this.symm
theorem bls_join2 {l a b : List UInt8} (h : bls l = [a, b]) : l = a ++ 32 :: b := by
  have := bls_join l [a] b h
  simp at this
  exact this.symm
theorem rd_some {l : List UInt8} {k a : Int} (h : rd l = some (k, a)) : vdeed k a = true ∧ dtxt k a = l := by
  unfold rd at h
  have hr := fun x => kOf_range x
  match hq : bls l, bls_ne l with
  | [x], _ =>
    rw [hq, rdL1] at h
    split at h
    · cases h
    · rename_i hc
      have hc1 : kOf x ≠ 0 := fun e => hc (.inl e)
      have hc2 : dtell (kOf x) = false := by
        cases ht : dtell (kOf x) with
        | false => rfl
        | true => exact absurd (.inr ht) hc
      have hw := kOf_word hc1
      have hr := hr x
      cases h
      have hv : vdeed (kOf x) 0 = true := by
        simp only [vdeed, inB, Bool.and_eq_true, Bool.or_eq_true, decide_eq_true_eq]
        exact ⟨⟨by omega, by omega⟩, .inr trivial⟩
      refine ⟨hv, ?_⟩
      unfold dtxt
      rw [if_pos hv, if_neg (by rw [hc2]; simp), hw]
      exact (bls_join1 hq).symm
  | [x, y], _ =>
    rw [hq, rdL2] at h
    split at h
    · cases h
    · rename_i hc
      have hc1 : kOf x ≠ 0 := fun e => hc (.inl e)
      have hc2 : dtell (kOf x) = true := by
        cases ht : dtell (kOf x) with
        | true => rfl
        | false => exact absurd (.inr ht) hc
      have hw := kOf_word hc1
      split at h
      · cases h
      · rename_i n hn
        split at h
        · rename_i hv
          cases h
          refine ⟨hv, ?_⟩
          unfold dtxt
          rw [if_pos hv, if_pos hc2, hw, (numV_some hn).1]
          exact (bls_join2 hq).symm
        · cases h
  | x :: y :: z :: t, _ =>
    rw [hq] at h
    cases h
theorem rd_iff {l : List UInt8} {k a : Int} : rd l = some (k, a) ↔ vdeed k a = true ∧ dtxt k a = l := ⟨rd_some, fun ⟨h1, h2⟩ => by rw [← h2]; exact rd_dtxt h1⟩
/-- What the program reads behind the first blank. -/
theorem rd_pint {l : List UInt8} {k a : Int} (h : rd l = some (k, a)) : pint (cutB 32 l) = a := by
  obtain ⟨h1, rfl⟩ := rd_some h
  obtain ⟨g1, g2, g3, g4⟩ := vdeed_k h1
  have hw := (dwordSplit g1).2
  unfold dtxt
  rw [if_pos h1]
  split
  · rw [(cut_yes hw).2]
    exact pint_itoa g2 (by omega)
  · rename_i ht
    rw [(cut_no hw).2, pint_nil]
    exact (g4 (by simpa using ht)).symm

/-! ### The reference -/
end Go.Proofs.YtffmlijngfhhaaaGreatDoor

/-! Deeds read from texts by the program. Condition: the variables of strconv are laid. -/
namespace Go.Proofs.YtffmlijngfhhaaaGreatDoor
open Go
attribute [local irreducible] awp awpL awpQL awpQ awpM pWalk Qt AC thenQ blockQ loopQ OpTo
set_option linter.unusedVariables false
set_option linter.unusedSimpArgs false
set_option maxHeartbeats 2000000
attribute [local irreducible] HC
open Go.Lib (itoa)

/-! ### The program -/
theorem vdeedI {k a : Int} (h : vdeed k a = true) : 1 ≤ k ∧ k ≤ 9 := by
  have := (vdeed_k h).1
  simp only [inB, Bool.and_eq_true, decide_eq_true_eq] at this
  exact this
theorem dtxt_len (k a : Int) (h : vdeed k a = true) : (dtxt k a).length ≤ 11 := by
  obtain ⟨h1, h2, h3, h4⟩ := vdeed_k h
  have hw := dword_len7 k
  have hi := itoa_len ⟨h2, h3⟩
  unfold dtxt
  rw [if_pos h]
  split
  · simp; omega
  · omega
theorem impl_ReadDeed {l : List UInt8} (hl : l.length ≤ 1048576) : AC Tryz.prog 13 [.str l] (rdV l) := by
  have e1 := strings_Cut (b := 32) hl
  have hbl := cutB_le 32 l
  have e2 := strconv_ParseInt (l := cutB 32 l) (by omega)
  have hp := fun k a (h : rd l = some (k, a)) => rd_pint h
  have ev := fun k a => impl_ValidDeed (k := k) (a := a)
  have et := fun k a => impl_DeedText (k := k) (a := a)
  have hri := fun k a => rd_iff (l := l) (k := k) (a := a)
  generalize pint (cutB 32 l) = n at *
  unfold rdV
  refine ac_introC tabIs _ Tryz.func13 rfl rfl Tryz.ntmps13 rfl rfl fun w0 ok0 he0 => ?_
  repeat (first | refine awp_seq ?_ | refine then_n ?_ | refine then_r ?_ | refine then_x ?_ | refine block_n ?_ | refine block_r ?_ | refine block_x ?_ | refine u_y ?_ | refine loop_r ?_ | refine loop_x ?_ | refine awp_region ?_ | refine awpL_nil ?_ | refine awpQL_nil ?_ | refine awp_block ?_ | refine awp_skip ?_ | refine awp_exit ?_ | refine awp_label ?_ | refine u_dT ?_ | refine u_d ?_ | ((first | apply c_l | apply c_q | apply c_lr | apply c_qr); (iterate 2 exact rfl); (focus (first | exact e1)); (iterate 2 exact rfl)) | (apply v_c; (iterate 4 exact rfl); (focus (first | exact e1)); (iterate 2 exact rfl)) | refine u_l ?_ | refine u_o ?_ | refine u_q ?_ | refine u_lr ?_ | refine u_qr ?_ | refine u_ls ?_ | refine u_qs ?_ | refine u_t ?_ | refine u_f ?_ | refine v_s ?_ | refine v_o ?_ | refine v_on ?_ | refine v_og ?_ | refine v_q ?_ | refine v_sr ?_ | refine v_k ?_ | refine m_nil ?_)
  refine hcl [] [] e2 ?_
  repeat (first | refine awp_seq ?_ | refine then_n ?_ | refine then_r ?_ | refine then_x ?_ | refine block_n ?_ | refine block_r ?_ | refine block_x ?_ | refine u_y ?_ | refine loop_r ?_ | refine loop_x ?_ | refine awp_region ?_ | refine awpL_nil ?_ | refine awpQL_nil ?_ | refine awp_block ?_ | refine awp_skip ?_ | refine awp_exit ?_ | refine awp_label ?_ | refine u_dT ?_ | refine u_d ?_ | refine u_l ?_ | refine u_o ?_ | refine u_q ?_ | refine u_lr ?_ | refine u_qr ?_ | refine u_ls ?_ | refine u_qs ?_ | refine u_t ?_ | refine u_f ?_ | refine v_s ?_ | refine v_o ?_ | refine v_on ?_ | refine v_og ?_ | refine v_q ?_ | refine v_sr ?_ | refine v_k ?_ | refine m_nil ?_)
  refine awp_loop (fun k : Nat => 1 ≤ k ∧ k ≤ 10 ∧ ∀ j : Nat, 1 ≤ j → j < k → ¬ (vdeed j n = true ∧ dtxt j n = l)) (fun k => [(0, .d (.str l)), (2, .ref 2 0), (7, .d (.int .i64 n)), (9, .d (.int .i64 k))]) (fun k => [(2, .box [.d (.int .i64 0), .d (.int .i64 0)])]) (fun k => 10 - k) 1 ⟨by omega, by omega, fun j h1 h2 => by omega⟩ ?_ rfl ?_
  · ((repeat (first | exact trivial | (refine ⟨?_, ?_⟩; (focus (first | rfl | (simp [lk, argsS, args0]; done) | (simp [lk, argsS, args0]; omega)))))))
  · rintro k ⟨hk1, hk2, hno⟩
    by_cases hlt : k < 10
    · have e3 := ev k n
      have e4 := et k n
      have hri := hri k n
      cases hv : vdeed k n with
      | false =>
        rw [hv] at e3
        have hno' : ∀ j : Nat, 1 ≤ j → j < k + 1 → ¬ (vdeed j n = true ∧ dtxt j n = l) := fun j h1 h2 h => by
          by_cases hj : j = k
          · subst hj; rw [hv] at h; exact absurd h.1 (by decide)
          · exact hno j h1 (by omega) h
        repeat (first | refine awp_seq ?_ | refine then_n ?_ | refine then_r ?_ | refine then_x ?_ | refine block_n ?_ | refine block_r ?_ | refine block_x ?_ | refine u_y ?_ | refine loop_r ?_ | refine loop_x ?_ | refine awp_region ?_ | refine awpL_nil ?_ | refine awpQL_nil ?_ | refine awp_block ?_ | refine awp_skip ?_ | refine awp_exit ?_ | refine awp_label ?_ | refine u_dT ?_ | refine u_d ?_ | refine u_l ?_ | refine u_o ?_ | refine u_q ?_ | refine u_lr ?_ | refine u_qr ?_ | refine u_ls ?_ | refine u_qs ?_ | refine u_t ?_ | refine u_f ?_ | refine v_s ?_ | refine v_o ?_ | refine v_on ?_ | refine v_og ?_ | refine v_q ?_ | refine v_sr ?_ | refine v_k ?_ | refine m_nil ?_)
        refine awpL_freezeB 10 rfl rfl rfl ?_
        repeat (first | refine awp_seq ?_ | refine then_n ?_ | refine then_r ?_ | refine then_x ?_ | refine block_n ?_ | refine block_r ?_ | refine block_x ?_ | refine u_y ?_ | refine loop_r ?_ | refine loop_x ?_ | refine awp_region ?_ | refine awpL_nil ?_ | refine awpQL_nil ?_ | refine awp_block ?_ | refine awp_skip ?_ | refine awp_exit ?_ | refine awp_label ?_ | refine u_dT ?_ | refine u_d ?_ | ((first | apply c_l | apply c_q | apply c_lr | apply c_qr); (iterate 2 exact rfl); (focus (first | exact e3)); (iterate 2 exact rfl)) | (apply v_c; (iterate 4 exact rfl); (focus (first | exact e3)); (iterate 2 exact rfl)) | refine u_l ?_ | refine u_o ?_ | refine u_q ?_ | refine u_lr ?_ | refine u_qr ?_ | refine u_ls ?_ | refine u_qs ?_ | refine u_t ?_ | refine u_f ?_ | refine v_s ?_ | refine v_o ?_ | refine v_on ?_ | refine v_og ?_ | refine v_q ?_ | refine v_sr ?_ | refine v_k ?_ | refine m_nil ?_)
        refine loop_n (k + 1) ⟨by omega, by omega, hno'⟩ ?_ rfl (by omega)
        ((repeat (first | exact trivial | (refine ⟨?_, ?_⟩; (focus (first | rfl | (simp [lk, argsS, args0]; done) | (simp [lk, argsS, args0]; omega)))))))
      | true =>
        rw [hv] at e3
        have hdl := dtxt_len k n hv
        by_cases he : dtxt k n = l
        · have hrd := hri.2 ⟨hv, he⟩
          rw [hrd]
          rw [he] at e4
          repeat (first | refine awp_seq ?_ | refine then_n ?_ | refine then_r ?_ | refine then_x ?_ | refine block_n ?_ | refine block_r ?_ | refine block_x ?_ | refine u_y ?_ | refine loop_r ?_ | refine loop_x ?_ | refine awp_region ?_ | refine awpL_nil ?_ | refine awpQL_nil ?_ | refine awp_block ?_ | refine awp_skip ?_ | refine awp_exit ?_ | refine awp_label ?_ | refine u_dT ?_ | refine u_d ?_ | ((first | apply c_l | apply c_q | apply c_lr | apply c_qr); (iterate 2 exact rfl); (focus (first | exact e3 | exact e4)); (iterate 2 exact rfl)) | (apply v_c; (iterate 4 exact rfl); (focus (first | exact e3 | exact e4)); (iterate 2 exact rfl)) | refine u_l ?_ | refine u_o ?_ | refine u_q ?_ | refine u_lr ?_ | refine u_qr ?_ | refine u_ls ?_ | refine u_qs ?_ | refine u_t ?_ | refine u_f ?_ | refine v_s ?_ | refine v_o ?_ | refine v_on ?_ | refine v_og ?_ | refine v_q ?_ | refine v_sr ?_ | refine v_k ?_ | refine m_nil ?_)
          (refine awp_ret ?_; (repeat (first | refine then_r ?_ | refine block_r ?_ | refine loop_r ?_)); apply ret_okC (.inr rfl); (focus exact rfl))
          rfl
        · have hd : decide (dtxt k n = l) = false := decide_eq_false he
          have hno' : ∀ j : Nat, 1 ≤ j → j < k + 1 → ¬ (vdeed j n = true ∧ dtxt j n = l) := fun j h1 h2 h => by
            by_cases hj : j = k
            · subst hj; exact he h.2
            · exact hno j h1 (by omega) h
          generalize dtxt k n = tx at *
          repeat (first | refine awp_seq ?_ | refine then_n ?_ | refine then_r ?_ | refine then_x ?_ | refine block_n ?_ | refine block_r ?_ | refine block_x ?_ | refine u_y ?_ | refine loop_r ?_ | refine loop_x ?_ | refine awp_region ?_ | refine awpL_nil ?_ | refine awpQL_nil ?_ | refine awp_block ?_ | refine awp_skip ?_ | refine awp_exit ?_ | refine awp_label ?_ | refine u_dT ?_ | refine u_d ?_ | refine u_l ?_ | refine u_o ?_ | refine u_q ?_ | refine u_lr ?_ | refine u_qr ?_ | refine u_ls ?_ | refine u_qs ?_ | refine u_t ?_ | refine u_f ?_ | refine v_s ?_ | refine v_o ?_ | refine v_on ?_ | refine v_og ?_ | refine v_q ?_ | refine v_sr ?_ | refine v_k ?_ | refine m_nil ?_)
          refine awpL_freezeB 10 rfl rfl rfl ?_
          repeat (first | refine awp_seq ?_ | refine then_n ?_ | refine then_r ?_ | refine then_x ?_ | refine block_n ?_ | refine block_r ?_ | refine block_x ?_ | refine u_y ?_ | refine loop_r ?_ | refine loop_x ?_ | refine awp_region ?_ | refine awpL_nil ?_ | refine awpQL_nil ?_ | refine awp_block ?_ | refine awp_skip ?_ | refine awp_exit ?_ | refine awp_label ?_ | refine u_dT ?_ | refine u_d ?_ | ((first | apply c_l | apply c_q | apply c_lr | apply c_qr); (iterate 2 exact rfl); (focus (first | exact e3 | exact e4)); (iterate 2 exact rfl)) | (apply v_c; (iterate 4 exact rfl); (focus (first | exact e3 | exact e4)); (iterate 2 exact rfl)) | refine u_l ?_ | refine u_o ?_ | refine u_q ?_ | refine u_lr ?_ | refine u_qr ?_ | refine u_ls ?_ | refine u_qs ?_ | refine u_t ?_ | refine u_f ?_ | refine v_s ?_ | refine v_o ?_ | refine v_on ?_ | refine v_og ?_ | refine v_q ?_ | refine v_sr ?_ | refine v_k ?_ | refine m_nil ?_)
          refine loop_n (k + 1) ⟨by omega, by omega, hno'⟩ ?_ rfl (by omega)
          ((repeat (first | exact trivial | (refine ⟨?_, ?_⟩; (focus (first | rfl | (simp [lk, argsS, args0]; done) | (simp [lk, argsS, args0]; omega)))))))
    · have hke : k = 10 := by omega
      subst hke
      have hrd : rd l = none := by
        cases h : rd l with
        | none => rfl
        | some p =>
          obtain ⟨k, a⟩ := p
          have e := hp k a h
          subst e
          have h2 := (hri k n).1 h
          have h3 := vdeedI h2.1
          refine absurd ?_ (hno k.toNat (by omega) (by omega))
          rw [show ((k.toNat : Nat) : Int) = k by omega]
          exact h2
      rw [hrd]
      repeat (first | refine awp_seq ?_ | refine then_n ?_ | refine then_r ?_ | refine then_x ?_ | refine block_n ?_ | refine block_r ?_ | refine block_x ?_ | refine u_y ?_ | refine loop_r ?_ | refine loop_x ?_ | refine awp_region ?_ | refine awpL_nil ?_ | refine awpQL_nil ?_ | refine awp_block ?_ | refine awp_skip ?_ | refine awp_exit ?_ | refine awp_label ?_ | refine u_dT ?_ | refine u_d ?_ | refine u_l ?_ | refine u_o ?_ | refine u_q ?_ | refine u_lr ?_ | refine u_qr ?_ | refine u_ls ?_ | refine u_qs ?_ | refine u_t ?_ | refine u_f ?_ | refine v_s ?_ | refine v_o ?_ | refine v_on ?_ | refine v_og ?_ | refine v_q ?_ | refine v_sr ?_ | refine v_k ?_ | refine m_nil ?_)
      (refine awp_ret ?_; (repeat (first | refine then_r ?_ | refine block_r ?_ | refine loop_r ?_)); apply ret_okC (.inr rfl); (focus exact rfl))
      rfl
end Go.Proofs.YtffmlijngfhhaaaGreatDoor
