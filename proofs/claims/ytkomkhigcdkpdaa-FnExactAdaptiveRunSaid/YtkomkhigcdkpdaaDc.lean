/- Sets as numbers: contracts of the reference and of the program; the worst depth behind a letter. No condition. -/
import Derived.Test.YtkomkhigcdkpdaaDa
import Derived.Test.YtkomkhigcdkpdaaDb
namespace Go.Proofs.Ytkomkhigcdkpdaa
open Go
attribute [local irreducible] awp awpL awpQL awpQ awpM pWalk Qt AC thenQ blockQ loopQ OpTo
set_option linter.unusedVariables false
set_option linter.unusedSimpArgs false
set_option maxHeartbeats 2000000
attribute [local irreducible] HC

theorem pow_le {m : Nat} (h : m ≤ 10) : 2 ^ m ≤ 1024 := (show 2 ^ m ≤ 2 ^ 10 from Nat.pow_le_pow_right (by omega) h)
theorem setN_lt {f m : Nat} (h : f < 2 ^ m) {q : Int} (hq : q ∈ setN f) : 0 ≤ q ∧ q < m := by
  obtain ⟨i, i1, i2, rfl⟩ := mem_setTo.1 hq
  refine ⟨by omega, ?_⟩
  rcases Nat.lt_or_ge i m with h' | h'
  · omega
  · have := Nat.testBit_lt_two_pow (Nat.lt_of_lt_of_le h (Nat.pow_le_pow_right (by omega) h'))
    rw [this] at i2; cases i2
theorem bits_lt {m : Nat} : ∀ (l : List Int) (acc : Nat), acc < 2 ^ m → (∀ x ∈ l, x.toNat < m) → bitsL acc l < 2 ^ m
  | [], acc, h, _ => h
  | x :: l, acc, h, hl => by
    unfold bitsL
    simp only [List.foldl_cons]
    have h2 : 2 ^ x.toNat < 2 ^ m := Nat.pow_lt_pow_right (by omega) (hl x (List.mem_cons_self ..))
    exact bits_lt l _ (Nat.or_lt_two_pow h h2) fun y hy => hl y (List.mem_cons_of_mem _ hy)
theorem bits_set {f : Nat} (h : f < 2 ^ 64) : bitsL 0 (setN f) = f := by
  apply Nat.eq_of_testBit_eq
  intro i
  rw [testBit_bitsL]
  simp only [Nat.zero_testBit, Bool.false_or]
  by_cases hi : i < 64
  · cases ht : f.testBit i
    · rw [List.any_eq_false]
      intro x hx
      obtain ⟨k, k1, k2, rfl⟩ := mem_setTo.1 hx
      simp only [Int.toNat_natCast, decide_eq_true_eq]
      rintro rfl
      rw [ht] at k2; cases k2
    · rw [List.any_eq_true]
      exact ⟨i, mem_setTo.2 ⟨i, hi, ht, rfl⟩, by simp⟩
  · have : f.testBit i = false := Nat.testBit_lt_two_pow (Nat.lt_of_lt_of_le h (Nat.pow_le_pow_right (by omega) (by omega)))
    rw [this, List.any_eq_false]
    intro x hx
    obtain ⟨k, k1, k2, rfl⟩ := mem_setTo.1 hx
    simp; omega

/-- Is a set known at once? -/
def sm (f : Nat) : Bool := decide (f &&& (f - 1) = 0)
/-- What is believed, as numbers. -/
def bel (nx : List (List Int)) (lp : List Int) (f x y : Nat) : Nat := belB nx lp f x y

theorem bel_lt {s : Int} {nx : List (List Int)} {lp : List Int} (v : LV s nx lp) {f x y : Nat} (hf : f < 2 ^ s.toNat) (hx : x < nx.length) : bel nx lp f x y < 2 ^ s.toNat := by
  have hs := v.s1
  have hL : ∀ q ∈ setN f, 0 ≤ q ∧ q < s := fun q hq => by have := setN_lt hf hq; omega
  unfold bel belB
  refine bits_lt _ 0 (Nat.two_pow_pos _) fun q hq => ?_
  have h1 := (step_mem v hL (x := (x : Int)) (by omega)).1 (List.mem_filter.1 hq).1
  have := step_lt v hL (x := (x : Int)) (by omega) q h1
  omega

theorem impl_isSmall {f : Nat} (hf : f < 1024) : AC Try.prog 133 [.int .u64 f] (.bool (sm f)) := by
  by_cases h0 : f = 0
  · subst h0
    have hw : IntKind.u64.wrap (((0 : Nat) : Int) - 1) = 18446744073709551615 := by decide
    have hq : 0 ≤ IntKind.u64.wrap (((0 : Nat) : Int) - 1) ∧ IntKind.u64.wrap (((0 : Nat) : Int) - 1) < 18446744073709551616 := by rw [hw]; omega
    refine ac_intro tabIs _ Try.func133 rfl rfl Try.ntmps133 rfl rfl fun w0 ok0 => ?_
    repeat (first | refine awp_seq ?_ | refine then_n ?_ | refine then_r ?_ | refine then_x ?_ | refine block_n ?_ | refine block_r ?_ | refine block_x ?_ | refine u_y ?_ | refine loop_r ?_ | refine loop_x ?_ | refine awp_region ?_ | refine awpL_nil ?_ | refine awpQL_nil ?_ | refine awp_block ?_ | refine awp_skip ?_ | refine awp_exit ?_ | refine awp_label ?_ | refine u_dT ?_ | refine u_d ?_ | ((first | apply x_l | apply x_q | apply x_lr | apply x_qr); (focus (first | (apply qb_subU; (iterate 2 (focus (first | exact rfl | (first | assumption | omega | (simp; omega) | (simp; done) | rfl))))) | (apply qb_and; (iterate 4 (focus (first | exact rfl | (first | assumption | omega | (simp; omega) | (simp; done) | rfl))))))); exact rfl) | (apply v_x; (iterate 2 exact rfl); (focus (intro ok0 nw hle; (first | (apply qb_subU; (iterate 2 (focus (first | exact rfl | (first | assumption | omega | (simp; omega) | (simp; done) | rfl))))) | (apply qb_and; (iterate 4 (focus (first | exact rfl | (first | assumption | omega | (simp; omega) | (simp; done) | rfl)))))))); (iterate 2 exact rfl)) | refine u_l ?_ | refine u_o ?_ | refine u_q ?_ | refine u_lr ?_ | refine u_qr ?_ | refine u_ls ?_ | refine u_qs ?_ | refine u_t ?_ | refine u_f ?_ | refine v_s ?_ | refine v_o ?_ | refine v_on ?_ | refine v_og ?_ | refine v_q ?_ | refine v_sr ?_ | refine v_k ?_ | refine m_nil ?_)
    (refine awp_ret ?_; (repeat (first | refine then_r ?_ | refine block_r ?_ | refine loop_r ?_)); apply ret_ok (.inr rfl); (focus exact rfl))
    simp [band, sm]
  · have hw : IntKind.u64.wrap ((f : Int) - 1) = ((f - 1 : Nat) : Int) := by
      rw [show (f : Int) - 1 = ((f - 1 : Nat) : Int) by omega]
      exact u64_wrap (by omega)
    have hq : 0 ≤ IntKind.u64.wrap ((f : Int) - 1) ∧ IntKind.u64.wrap ((f : Int) - 1) < 18446744073709551616 := by rw [hw]; omega
    refine ac_intro tabIs _ Try.func133 rfl rfl Try.ntmps133 rfl rfl fun w0 ok0 => ?_
    repeat (first | refine awp_seq ?_ | refine then_n ?_ | refine then_r ?_ | refine then_x ?_ | refine block_n ?_ | refine block_r ?_ | refine block_x ?_ | refine u_y ?_ | refine loop_r ?_ | refine loop_x ?_ | refine awp_region ?_ | refine awpL_nil ?_ | refine awpQL_nil ?_ | refine awp_block ?_ | refine awp_skip ?_ | refine awp_exit ?_ | refine awp_label ?_ | refine u_dT ?_ | refine u_d ?_ | ((first | apply x_l | apply x_q | apply x_lr | apply x_qr); (focus (first | (apply qb_subU; (iterate 2 (focus (first | exact rfl | (first | assumption | omega | (simp; omega) | (simp; done) | rfl))))) | (apply qb_and; (iterate 4 (focus (first | exact rfl | (first | assumption | omega | (simp; omega) | (simp; done) | rfl))))))); exact rfl) | (apply v_x; (iterate 2 exact rfl); (focus (intro ok0 nw hle; (first | (apply qb_subU; (iterate 2 (focus (first | exact rfl | (first | assumption | omega | (simp; omega) | (simp; done) | rfl))))) | (apply qb_and; (iterate 4 (focus (first | exact rfl | (first | assumption | omega | (simp; omega) | (simp; done) | rfl)))))))); (iterate 2 exact rfl)) | refine u_l ?_ | refine u_o ?_ | refine u_q ?_ | refine u_lr ?_ | refine u_qr ?_ | refine u_ls ?_ | refine u_qs ?_ | refine u_t ?_ | refine u_f ?_ | refine v_s ?_ | refine v_o ?_ | refine v_on ?_ | refine v_og ?_ | refine v_q ?_ | refine v_sr ?_ | refine v_k ?_ | refine m_nil ?_)
    (refine awp_ret ?_; (repeat (first | refine then_r ?_ | refine block_r ?_ | refine loop_r ?_)); apply ret_ok (.inr rfl); (focus exact rfl))
    rw [hw]
    simp only [band, Int.toNat_natCast, sm]
    congr 1
    apply decide_eq_decide.2
    omega

theorem spec_l02Single {f : Nat} (hf : f < 1024) : AC Try.prog 95 [.int .i64 f] (.bool (sm f)) := by
  by_cases h0 : f = 0
  · subst h0
    refine ac_intro tabIs _ Try.func95 rfl rfl Try.ntmps95 rfl rfl fun w0 ok0 => ?_
    repeat (first | refine awp_seq ?_ | refine then_n ?_ | refine then_r ?_ | refine then_x ?_ | refine block_n ?_ | refine block_r ?_ | refine block_x ?_ | refine u_y ?_ | refine loop_r ?_ | refine loop_x ?_ | refine awp_region ?_ | refine awpL_nil ?_ | refine awpQL_nil ?_ | refine awp_block ?_ | refine awp_skip ?_ | refine awp_exit ?_ | refine awp_label ?_ | refine u_dT ?_ | refine u_d ?_ | ((first | apply x_l | apply x_q | apply x_lr | apply x_qr); (focus (first | (apply qi_and0; (iterate 2 (focus (first | exact rfl | (first | assumption | omega | (simp; omega) | (simp; done) | rfl))))))); exact rfl) | (apply v_x; (iterate 2 exact rfl); (focus (intro ok0 nw hle; (first | (apply qi_and0; (iterate 2 (focus (first | exact rfl | (first | assumption | omega | (simp; omega) | (simp; done) | rfl)))))))); (iterate 2 exact rfl)) | refine u_l ?_ | refine u_o ?_ | refine u_q ?_ | refine u_lr ?_ | refine u_qr ?_ | refine u_ls ?_ | refine u_qs ?_ | refine u_t ?_ | refine u_f ?_ | refine v_s ?_ | refine v_o ?_ | refine v_on ?_ | refine v_og ?_ | refine v_q ?_ | refine v_sr ?_ | refine v_k ?_ | refine m_nil ?_)
    (refine awp_ret ?_; (repeat (first | refine then_r ?_ | refine block_r ?_ | refine loop_r ?_)); apply ret_ok (.inr rfl); (focus exact rfl))
    rfl
  · refine ac_intro tabIs _ Try.func95 rfl rfl Try.ntmps95 rfl rfl fun w0 ok0 => ?_
    repeat (first | refine awp_seq ?_ | refine then_n ?_ | refine then_r ?_ | refine then_x ?_ | refine block_n ?_ | refine block_r ?_ | refine block_x ?_ | refine u_y ?_ | refine loop_r ?_ | refine loop_x ?_ | refine awp_region ?_ | refine awpL_nil ?_ | refine awpQL_nil ?_ | refine awp_block ?_ | refine awp_skip ?_ | refine awp_exit ?_ | refine awp_label ?_ | refine u_dT ?_ | refine u_d ?_ | ((first | apply x_l | apply x_q | apply x_lr | apply x_qr); (focus (first | (apply qi_and; (iterate 4 (focus (first | exact rfl | (first | assumption | omega | (simp; omega) | (simp; done) | rfl))))))); exact rfl) | (apply v_x; (iterate 2 exact rfl); (focus (intro ok0 nw hle; (first | (apply qi_and; (iterate 4 (focus (first | exact rfl | (first | assumption | omega | (simp; omega) | (simp; done) | rfl)))))))); (iterate 2 exact rfl)) | refine u_l ?_ | refine u_o ?_ | refine u_q ?_ | refine u_lr ?_ | refine u_qr ?_ | refine u_ls ?_ | refine u_qs ?_ | refine u_t ?_ | refine u_f ?_ | refine v_s ?_ | refine v_o ?_ | refine v_on ?_ | refine v_og ?_ | refine v_q ?_ | refine v_sr ?_ | refine v_k ?_ | refine m_nil ?_)
    (refine awp_ret ?_; (repeat (first | refine then_r ?_ | refine block_r ?_ | refine loop_r ?_)); apply ret_ok (.inr rfl); (focus exact rfl))
    have hb : band (f : Int) ((f : Int) - 1) = ((f &&& (f - 1) : Nat) : Int) := by
      unfold band
      rw [show ((f : Int) - 1).toNat = f - 1 by omega, Int.toNat_natCast]
    unfold sm
    congr 1
    apply decide_eq_decide.2
    rw [hb]
    omega

theorem spec_l02Bits {l : List Int} (hl : ∀ x ∈ l, 0 ≤ x ∧ x < 10) (hn : l.length ≤ 9223372036854775807) : AC Try.prog 47 [ints l] (.int .i64 (bitsL 0 l)) := by
  have hle : (List.map (D.int IntKind.i64) l).length = l.length := by simp
  refine ac_intro tabIs _ Try.func47 rfl rfl Try.ntmps47 rfl rfl fun w0 ok0 => ?_
  repeat (first | refine awp_seq ?_ | refine then_n ?_ | refine then_r ?_ | refine then_x ?_ | refine block_n ?_ | refine block_r ?_ | refine block_x ?_ | refine u_y ?_ | refine loop_r ?_ | refine loop_x ?_ | refine awp_region ?_ | refine awpL_nil ?_ | refine awpQL_nil ?_ | refine awp_block ?_ | refine awp_skip ?_ | refine awp_exit ?_ | refine awp_label ?_ | refine u_dT ?_ | refine u_d ?_ | refine u_l ?_ | refine u_o ?_ | refine u_q ?_ | refine u_lr ?_ | refine u_qr ?_ | refine u_ls ?_ | refine u_qs ?_ | refine u_t ?_ | refine u_f ?_ | refine v_s ?_ | refine v_o ?_ | refine v_on ?_ | refine v_og ?_ | refine v_q ?_ | refine v_sr ?_ | refine v_k ?_ | refine m_nil ?_)
  refine awp_loop (fun k : Nat => k ≤ l.length) (fun k => [(0, .d (ints l)), (3, .d (.int .i64 (bitsL 0 (l.take k)))), (4, .d (.int .i64 k))]) (fun _ => []) (fun k => l.length - k) 0 (by omega) ?_ rfl ?_
  · refine ⟨rfl, ?_, rfl, trivial⟩ <;> simp [lk, args0, bitsL]
  · intro k hk
    have hlt0 := bits_lt (m := 10) (l.take k) 0 (by omega) fun x hx => by have := hl x (List.mem_of_mem_take hx); omega
    by_cases hlt : k < l.length
    · have hx := el_int hlt
      have hb := hl _ (List.getElem_mem hlt)
      have h2 : 0 ≤ two l[k] ∧ two l[k] < 9223372036854775808 := by
        unfold two
        have : 2 ^ l[k].toNat < 2 ^ 10 := Nat.pow_lt_pow_right (by omega) (by omega)
        generalize 2 ^ l[k].toNat = n at *
        omega
      have h3 : 0 ≤ ((bitsL 0 (l.take k) : Nat) : Int) ∧ ((bitsL 0 (l.take k) : Nat) : Int) < 9223372036854775808 := by
        generalize bitsL 0 (l.take k) = n at *
        omega
      repeat (first | refine awp_seq ?_ | refine then_n ?_ | refine then_r ?_ | refine then_x ?_ | refine block_n ?_ | refine block_r ?_ | refine block_x ?_ | refine u_y ?_ | refine loop_r ?_ | refine loop_x ?_ | refine awp_region ?_ | refine awpL_nil ?_ | refine awpQL_nil ?_ | refine awp_block ?_ | refine awp_skip ?_ | refine awp_exit ?_ | refine awp_label ?_ | refine u_dT ?_ | refine u_d ?_ | ((first | apply x_l | apply x_q | apply x_lr | apply x_qr); (focus (first | (apply qi_conv; (iterate 5 (focus (first | exact rfl | (first | assumption | omega | (simp; omega) | (simp; done) | rfl))))) | (apply qi_one; (iterate 2 (focus (first | exact rfl | (first | assumption | omega | (simp; omega) | (simp; done) | rfl))))) | (apply qi_or; (iterate 4 (focus (first | exact rfl | (first | assumption | omega | (simp; omega) | (simp; done) | rfl))))))); exact rfl) | (apply v_x; (iterate 2 exact rfl); (focus (intro ok0 nw hle; (first | (apply qi_conv; (iterate 5 (focus (first | exact rfl | (first | assumption | omega | (simp; omega) | (simp; done) | rfl))))) | (apply qi_one; (iterate 2 (focus (first | exact rfl | (first | assumption | omega | (simp; omega) | (simp; done) | rfl))))) | (apply qi_or; (iterate 4 (focus (first | exact rfl | (first | assumption | omega | (simp; omega) | (simp; done) | rfl)))))))); (iterate 2 exact rfl)) | refine u_l ?_ | refine u_o ?_ | refine u_q ?_ | refine u_lr ?_ | refine u_qr ?_ | refine u_ls ?_ | refine u_qs ?_ | refine u_t ?_ | refine u_f ?_ | refine v_s ?_ | refine v_o ?_ | refine v_on ?_ | refine v_og ?_ | refine v_q ?_ | refine v_sr ?_ | refine v_k ?_ | refine m_nil ?_)
      refine loop_n (k + 1) (by omega) ?_ rfl (by omega)
      refine ⟨rfl, ?_, rfl, trivial⟩
      simp only [lk, bitsL_take hlt, two_eq, bor_eq, Nat.reduceEqDiff, if_false, if_true]
    · have : k = l.length := by omega
      subst this
      repeat (first | refine awp_seq ?_ | refine then_n ?_ | refine then_r ?_ | refine then_x ?_ | refine block_n ?_ | refine block_r ?_ | refine block_x ?_ | refine u_y ?_ | refine loop_r ?_ | refine loop_x ?_ | refine awp_region ?_ | refine awpL_nil ?_ | refine awpQL_nil ?_ | refine awp_block ?_ | refine awp_skip ?_ | refine awp_exit ?_ | refine awp_label ?_ | refine u_dT ?_ | refine u_d ?_ | refine u_l ?_ | refine u_o ?_ | refine u_q ?_ | refine u_lr ?_ | refine u_qr ?_ | refine u_ls ?_ | refine u_qs ?_ | refine u_t ?_ | refine u_f ?_ | refine v_s ?_ | refine v_o ?_ | refine v_on ?_ | refine v_og ?_ | refine v_q ?_ | refine v_sr ?_ | refine v_k ?_ | refine m_nil ?_)
      (refine awp_ret ?_; (repeat (first | refine then_r ?_ | refine block_r ?_ | refine loop_r ?_)); apply ret_ok (.inr rfl); (focus exact rfl))
      simp

theorem spec_l02Set {f : Nat} (hf : f < 1024) : AC Try.prog 128 [.int .i64 f] (ints (setN f)) := by
  refine ac_intro tabIs _ Try.func128 rfl rfl Try.ntmps128 rfl rfl fun w0 ok0 => ?_
  repeat (first | refine v_w (t := 5) ?_ | refine awp_seq ?_ | refine then_n ?_ | refine then_r ?_ | refine then_x ?_ | refine block_n ?_ | refine block_r ?_ | refine block_x ?_ | refine u_y ?_ | refine loop_r ?_ | refine loop_x ?_ | refine awp_region ?_ | refine awpL_nil ?_ | refine awpQL_nil ?_ | refine awp_block ?_ | refine awp_skip ?_ | refine awp_exit ?_ | refine awp_label ?_ | refine u_dT ?_ | refine u_d ?_ | refine u_w (t := 5) ?_ | refine u_l ?_ | refine u_o ?_ | refine u_q ?_ | refine u_lr ?_ | refine u_qr ?_ | refine u_ls ?_ | refine u_qs ?_ | refine u_t ?_ | refine u_f ?_ | refine v_s ?_ | refine v_o ?_ | refine v_on ?_ | refine v_og ?_ | refine v_q ?_ | refine v_sr ?_ | refine v_k ?_ | refine m_nil ?_)
  refine awp_loop (fun s : Nat => s ≤ 64) (fun s => [(0, .d (.int .i64 f)), (3, .own 5), (4, .d (.int .i64 s))]) (fun s => [(5, .arr 2 1 ((setTo f s).map (.int .i64)))]) (fun s => 64 - s) 0 (by omega) ?_ rfl ?_
  · ((repeat (first | exact trivial | (refine ⟨?_, ?_⟩; (focus (first | rfl | (simp [lk, argsS, args0]; done) | (simp [lk, argsS, args0]; omega)))))))
  · intro s hs
    have hlen := setTo_length f s
    have hq : 0 ≤ bshr f s ∧ bshr f s < 9223372036854775808 := by
      unfold bshr
      simp only [Int.toNat_natCast]
      have : f >>> s ≤ f := Nat.shiftRight_le f s
      generalize f >>> s = g at *
      omega
    by_cases h0 : f >>> s = 0
    · have hc : decide (0 < bshr (f : Int) (s : Int)) = false := by simp [bshr, h0]
      have he := setTo_end (f := f) (64 - s) s h0
      rw [show s + (64 - s) = 64 by omega] at he
      repeat (first | refine awp_seq ?_ | refine then_n ?_ | refine then_r ?_ | refine then_x ?_ | refine block_n ?_ | refine block_r ?_ | refine block_x ?_ | refine u_y ?_ | refine loop_r ?_ | refine loop_x ?_ | refine awp_region ?_ | refine awpL_nil ?_ | refine awpQL_nil ?_ | refine awp_block ?_ | refine awp_skip ?_ | refine awp_exit ?_ | refine awp_label ?_ | refine u_dT ?_ | refine u_d ?_ | ((first | apply x_l | apply x_q | apply x_lr | apply x_qr); (focus (first | (apply qi_conv; (iterate 5 (focus (first | exact rfl | (first | assumption | omega | (simp; omega) | (simp; done) | rfl))))) | (apply qi_shr; (iterate 4 (focus (first | exact rfl | (first | assumption | omega | (simp; omega) | (simp; done) | rfl))))))); exact rfl) | (apply v_x; (iterate 2 exact rfl); (focus (intro ok0 nw hle; (first | (apply qi_conv; (iterate 5 (focus (first | exact rfl | (first | assumption | omega | (simp; omega) | (simp; done) | rfl))))) | (apply qi_shr; (iterate 4 (focus (first | exact rfl | (first | assumption | omega | (simp; omega) | (simp; done) | rfl)))))))); (iterate 2 exact rfl)) | refine u_l ?_ | refine u_o ?_ | refine u_q ?_ | refine u_lr ?_ | refine u_qr ?_ | refine u_ls ?_ | refine u_qs ?_ | refine u_t ?_ | refine u_f ?_ | refine v_s ?_ | refine v_o ?_ | refine v_on ?_ | refine v_og ?_ | refine v_q ?_ | refine v_sr ?_ | refine v_k ?_ | refine m_nil ?_)
      (refine awp_ret ?_; (repeat (first | refine then_r ?_ | refine block_r ?_ | refine loop_r ?_)); apply ret_ok (.inr rfl); (focus exact rfl))
      unfold setN; rw [he]; rfl
    · have hs64 : s < 64 := by
        rcases Nat.lt_or_ge s 64 with h | h
        · exact h
        · exfalso
          apply h0
          rw [Nat.shiftRight_eq_div_pow, Nat.div_eq_of_lt]
          exact Nat.lt_of_lt_of_le (by omega : f < 2 ^ 10) (Nat.pow_le_pow_right (by omega) (by omega))
      have hc : decide (0 < bshr (f : Int) (s : Int)) = true := by
        unfold bshr
        simp only [Int.toNat_natCast, decide_eq_true_eq]
        generalize f >>> s = g at *
        omega
      have hb : band (bshr f s) 1 = if f.testBit s then 1 else 0 := by
        unfold band bshr
        simp only [Int.toNat_natCast]
        have : (f >>> s) &&& 1 = if f.testBit s then 1 else 0 := by
          rw [Nat.testBit_eq_decide_div_mod_eq, Nat.and_one_is_mod, Nat.shiftRight_eq_div_pow]
          by_cases h : f / 2 ^ s % 2 = 1
          · simp [h]
          · simp [h]; omega
        show (((f >>> s) &&& 1 : Nat) : Int) = _
        rw [this]
        split <;> rfl
      have hsucc := setTo_succ f s
      cases ht : f.testBit s
      · rw [ht] at hb hsucc
        have hd : decide (band (bshr (f : Int) (s : Int)) 1 = 1) = false := by simp [hb]
        repeat (first | refine awp_seq ?_ | refine then_n ?_ | refine then_r ?_ | refine then_x ?_ | refine block_n ?_ | refine block_r ?_ | refine block_x ?_ | refine u_y ?_ | refine loop_r ?_ | refine loop_x ?_ | refine awp_region ?_ | refine awpL_nil ?_ | refine awpQL_nil ?_ | refine awp_block ?_ | refine awp_skip ?_ | refine awp_exit ?_ | refine awp_label ?_ | refine u_dT ?_ | refine u_d ?_ | ((first | apply x_l | apply x_q | apply x_lr | apply x_qr); (focus (first | (apply qi_conv; (iterate 5 (focus (first | exact rfl | (first | assumption | omega | (simp; omega) | (simp; done) | rfl))))) | (apply qi_shr; (iterate 4 (focus (first | exact rfl | (first | assumption | omega | (simp; omega) | (simp; done) | rfl))))) | (apply qi_and; (iterate 4 (focus (first | exact rfl | (first | assumption | omega | (simp; omega) | (simp; done) | rfl))))))); exact rfl) | (apply v_x; (iterate 2 exact rfl); (focus (intro ok0 nw hle; (first | (apply qi_conv; (iterate 5 (focus (first | exact rfl | (first | assumption | omega | (simp; omega) | (simp; done) | rfl))))) | (apply qi_shr; (iterate 4 (focus (first | exact rfl | (first | assumption | omega | (simp; omega) | (simp; done) | rfl))))) | (apply qi_and; (iterate 4 (focus (first | exact rfl | (first | assumption | omega | (simp; omega) | (simp; done) | rfl)))))))); (iterate 2 exact rfl)) | refine u_l ?_ | refine u_o ?_ | refine u_q ?_ | refine u_lr ?_ | refine u_qr ?_ | refine u_ls ?_ | refine u_qs ?_ | refine u_t ?_ | refine u_f ?_ | refine v_s ?_ | refine v_o ?_ | refine v_on ?_ | refine v_og ?_ | refine v_q ?_ | refine v_sr ?_ | refine v_k ?_ | refine m_nil ?_)
        refine loop_n (s + 1) (by omega) ?_ ?_ (by omega)
        · ((repeat (first | exact trivial | (refine ⟨?_, ?_⟩; (focus (first | rfl | (simp [lk, argsS, args0]; done) | (simp [lk, argsS, args0]; omega)))))))
        · rw [hsucc]; simp
      · rw [ht] at hb hsucc
        have hd : decide (band (bshr (f : Int) (s : Int)) 1 = 1) = true := by simp [hb]
        repeat (first | refine awp_seq ?_ | refine then_n ?_ | refine then_r ?_ | refine then_x ?_ | refine block_n ?_ | refine block_r ?_ | refine block_x ?_ | refine u_y ?_ | refine loop_r ?_ | refine loop_x ?_ | refine awp_region ?_ | refine awpL_nil ?_ | refine awpQL_nil ?_ | refine awp_block ?_ | refine awp_skip ?_ | refine awp_exit ?_ | refine awp_label ?_ | refine u_dT ?_ | refine u_d ?_ | ((first | apply x_l | apply x_q | apply x_lr | apply x_qr); (focus (first | (apply qi_conv; (iterate 5 (focus (first | exact rfl | (first | assumption | omega | (simp; omega) | (simp; done) | rfl))))) | (apply qi_shr; (iterate 4 (focus (first | exact rfl | (first | assumption | omega | (simp; omega) | (simp; done) | rfl))))) | (apply qi_and; (iterate 4 (focus (first | exact rfl | (first | assumption | omega | (simp; omega) | (simp; done) | rfl))))))); exact rfl) | (apply v_x; (iterate 2 exact rfl); (focus (intro ok0 nw hle; (first | (apply qi_conv; (iterate 5 (focus (first | exact rfl | (first | assumption | omega | (simp; omega) | (simp; done) | rfl))))) | (apply qi_shr; (iterate 4 (focus (first | exact rfl | (first | assumption | omega | (simp; omega) | (simp; done) | rfl))))) | (apply qi_and; (iterate 4 (focus (first | exact rfl | (first | assumption | omega | (simp; omega) | (simp; done) | rfl)))))))); (iterate 2 exact rfl)) | refine u_l ?_ | refine u_o ?_ | refine u_q ?_ | refine u_lr ?_ | refine u_qr ?_ | refine u_ls ?_ | refine u_qs ?_ | refine u_t ?_ | refine u_f ?_ | refine v_s ?_ | refine v_o ?_ | refine v_on ?_ | refine v_og ?_ | refine v_q ?_ | refine v_sr ?_ | refine v_k ?_ | refine m_nil ?_)
        refine loop_n (s + 1) (by omega) ?_ ?_ (by omega)
        · ((repeat (first | exact trivial | (refine ⟨?_, ?_⟩; (focus (first | rfl | (simp [lk, argsS, args0]; done) | (simp [lk, argsS, args0]; omega)))))))
        · rw [hsucc]; simp [killH, keepH, memB]

theorem spec_l00Max {a b : Int} : AC Try.prog 129 [.int .i64 a, .int .i64 b] (.int .i64 (max a b)) := by
  by_cases h : b < a
  · refine ac_intro tabIs _ Try.func129 rfl rfl Try.ntmps129 rfl rfl fun w0 ok0 => ?_
    repeat (first | refine awp_seq ?_ | refine then_n ?_ | refine then_r ?_ | refine then_x ?_ | refine block_n ?_ | refine block_r ?_ | refine block_x ?_ | refine u_y ?_ | refine loop_r ?_ | refine loop_x ?_ | refine awp_region ?_ | refine awpL_nil ?_ | refine awpQL_nil ?_ | refine awp_block ?_ | refine awp_skip ?_ | refine awp_exit ?_ | refine awp_label ?_ | refine u_dT ?_ | refine u_d ?_ | refine u_l ?_ | refine u_o ?_ | refine u_q ?_ | refine u_lr ?_ | refine u_qr ?_ | refine u_ls ?_ | refine u_qs ?_ | refine u_t ?_ | refine u_f ?_ | refine v_s ?_ | refine v_o ?_ | refine v_on ?_ | refine v_og ?_ | refine v_q ?_ | refine v_sr ?_ | refine v_k ?_ | refine m_nil ?_)
    (refine awp_ret ?_; (repeat (first | refine then_r ?_ | refine block_r ?_ | refine loop_r ?_)); apply ret_ok (.inr rfl); (focus exact rfl))
    rw [Int.max_eq_left (by omega)]
  · refine ac_intro tabIs _ Try.func129 rfl rfl Try.ntmps129 rfl rfl fun w0 ok0 => ?_
    repeat (first | refine awp_seq ?_ | refine then_n ?_ | refine then_r ?_ | refine then_x ?_ | refine block_n ?_ | refine block_r ?_ | refine block_x ?_ | refine u_y ?_ | refine loop_r ?_ | refine loop_x ?_ | refine awp_region ?_ | refine awpL_nil ?_ | refine awpQL_nil ?_ | refine awp_block ?_ | refine awp_skip ?_ | refine awp_exit ?_ | refine awp_label ?_ | refine u_dT ?_ | refine u_d ?_ | refine u_l ?_ | refine u_o ?_ | refine u_q ?_ | refine u_lr ?_ | refine u_qr ?_ | refine u_ls ?_ | refine u_qs ?_ | refine u_t ?_ | refine u_f ?_ | refine v_s ?_ | refine v_o ?_ | refine v_on ?_ | refine v_og ?_ | refine v_q ?_ | refine v_sr ?_ | refine v_k ?_ | refine m_nil ?_)
    (refine awp_ret ?_; (repeat (first | refine then_r ?_ | refine block_r ?_ | refine loop_r ?_)); apply ret_ok (.inr rfl); (focus exact rfl))
    rw [Int.max_eq_right (by omega)]

/-! ### A row by its places -/

def fnL (N : Nat) (F : Nat → Int) : List Int := (List.range N).map F
@[simp] theorem fnL_length {N : Nat} {F : Nat → Int} : (fnL N F).length = N := by simp [fnL]
theorem fnL_get {N k : Nat} {F : Nat → Int} (h : k < N) : (fnL N F)[k]? = some (F k) := by simp [fnL, h]
theorem fnL_el {N k : Nat} {F : Nat → Int} (h : k < N) : ((fnL N F).map (D.int .i64))[(k : Int).toNat]? = some (.int .i64 (F k)) := by simp [fnL, h]
theorem fnL_set {N k : Nat} {F : Nat → Int} {v : Int} : ((fnL N F).map (D.int .i64)).set k (.int .i64 v) = (fnL N fun g => if g = k then v else F g).map (D.int .i64) := by
  apply List.ext_getElem?
  intro i
  rw [List.getElem?_set]
  by_cases hi : k = i
  · subst hi
    by_cases hk : k < N <;> simp [fnL, hk]
  · have : ¬ i = k := fun e => hi e.symm
    simp only [fnL, hi, if_false, List.getElem?_map]
    by_cases hk : i < N
    · simp [hk, this]
    · simp [hk]
theorem fnL_congr {N : Nat} {F G : Nat → Int} (h : ∀ g, g < N → F g = G g) : fnL N F = fnL N G := List.map_congr_left fun g hg => h g (List.mem_range.1 hg)

/-- The worst depth of some sets, -1 if one has none. -/
def wst (g : Nat → Int) : Nat → Int
  | 0 => 0
  | k + 1 => max (wst g k) (g k)
theorem wst_range {g : Nat → Int} : ∀ {k : Nat}, 0 ≤ wst g k
  | 0 => Int.le_refl _
  | k + 1 => by have := wst_range (g := g) (k := k); unfold wst; omega
theorem wst_lt {g : Nat → Int} {d : Nat} : ∀ {k : Nat}, wst g k < ((d + 1 : Nat) : Int) ↔ ∀ y, y < k → g y < ((d + 1 : Nat) : Int)
  | 0 => ⟨fun _ y h => by omega, fun _ => by unfold wst; omega⟩
  | k + 1 => by
    have ih := wst_lt (g := g) (d := d) (k := k)
    unfold wst
    constructor
    · intro h y hy
      by_cases e : y = k
      · subst e; omega
      · exact ih.1 (by omega) y (by omega)
    · intro h
      have h1 := ih.2 fun y hy => h y (by omega)
      have h2 := h k (by omega)
      omega
def wors (g : Nat → Int) (L : Nat) : Int := if ∀ y, y < L → 0 ≤ g y then wst g L else -1

/-- The set behind a letter and a lamp, in the reference. -/
theorem bel_list {s : Int} {nx : List (List Int)} {lp : List Int} (v : LV s nx lp) {f x y : Nat} (hf : f < 2 ^ s.toNat) (hx : x < nx.length) : (imgL nx (setN f) [(x : Int)]).filter (fun q => decide (lamp lp q = y)) = setN (bel nx lp f x y) := by
  have hs := v.s1
  have hL : ∀ q ∈ setN f, 0 ≤ q ∧ q < s := fun q hq => by have := setN_lt hf hq; omega
  have := bel_eq (x := x) (y := y) v hL (setTo_pairwise _ _) (by omega)
  have hp := pow_le (m := s.toNat) (by omega)
  rw [bits_set (by omega)] at this
  exact this.symm

theorem spec_l08Worst {s : Int} {nx : List (List Int)} {lp : List Int} {G : Nat → Int} (v : LV s nx lp) {f x : Nat} (hf : f < 2 ^ s.toNat) (hx : x < nx.length) :
    AC Try.prog 96 [.ptr (.agg [.int .i64 s, rows nx, ints lp]), ints (fnL (2 ^ s.toNat) G), .int .i64 f, .int .i64 x] (.int .i64 (wors (fun y => G (bel nx lp f x y)) 4)) := by
  have hs := v.s1
  have hp := pow_le (m := s.toNat) (by omega)
  have e1 := spec_l02Set (f := f) (by omega)
  have hL : ∀ q ∈ setN f, 0 ≤ q ∧ q < s := fun q hq => by have := setN_lt hf hq; omega
  have hLn : (setN f).length ≤ 64 := setTo_length f 64
  have hN : (fnL (2 ^ s.toNat) G).length = 2 ^ s.toNat := fnL_length
  have hN' : ((fnL (2 ^ s.toNat) G).map (D.int .i64)).length = 2 ^ s.toNat := by simp [fnL]
  refine ac_intro tabIs _ Try.func96 rfl rfl Try.ntmps96 rfl rfl fun w0 ok0 => ?_
  repeat (first | refine awp_seq ?_ | refine then_n ?_ | refine then_r ?_ | refine then_x ?_ | refine block_n ?_ | refine block_r ?_ | refine block_x ?_ | refine u_y ?_ | refine loop_r ?_ | refine loop_x ?_ | refine awp_region ?_ | refine awpL_nil ?_ | refine awpQL_nil ?_ | refine awp_block ?_ | refine awp_skip ?_ | refine awp_exit ?_ | refine awp_label ?_ | refine u_dT ?_ | refine u_d ?_ | refine u_l ?_ | refine u_o ?_ | refine u_q ?_ | refine u_lr ?_ | refine u_qr ?_ | refine u_ls ?_ | refine u_qs ?_ | refine u_t ?_ | refine u_f ?_ | refine v_s ?_ | refine v_o ?_ | refine v_on ?_ | refine v_og ?_ | refine v_q ?_ | refine v_sr ?_ | refine v_k ?_ | refine m_nil ?_)
  refine awp_loop (fun k : Nat => k ≤ 4 ∧ ∀ y, y < k → 0 ≤ G (bel nx lp f x y)) (fun k => [(0, .d (.ptr (.agg [.int .i64 s, rows nx, ints lp]))), (1, .d (ints (fnL (2 ^ s.toNat) G))), (2, .d (.int .i64 f)), (3, .d (.int .i64 x)), (9, .d (.int .i64 (wst (fun y => G (bel nx lp f x y)) k))), (10, .d (.int .i64 k))]) (fun _ => []) (fun k => 4 - k) 0 (by exact ⟨by omega, fun y h => by omega⟩) ?_ rfl ?_
  · ((repeat (first | exact trivial | (refine ⟨?_, ?_⟩; (focus (first | rfl | (simp [lk, argsS, args0]; done) | (simp [lk, argsS, args0]; omega)))))))
  · rintro k ⟨hk, hg⟩
    by_cases hlt : k < 4
    · have e2 := spec_l08Believed (x := (x : Int)) (y := (k : Int)) v hL (by omega) (by omega)
      have hb := bel_lt (y := k) v hf hx
      rw [bel_list v hf hx] at e2
      have e3 := spec_l02Bits (l := setN (bel nx lp f x k)) (fun q hq => by have := setN_lt hb hq; omega) (by have := setTo_length (bel nx lp f x k) 64; unfold setN; omega)
      rw [bits_set (by omega)] at e3
      have hel := fnL_el (F := G) hb
      have hstep : wst (fun y => G (bel nx lp f x y)) (k + 1) = max (wst (fun y => G (bel nx lp f x y)) k) (G (bel nx lp f x k)) := rfl
      have hw : (0 : Nat) ≤ 0 → (∀ y, y < 4 → 0 ≤ G (bel nx lp f x y)) → 0 ≤ G (bel nx lp f x k) := fun _ h => h k hlt
      generalize hgg : bel nx lp f x k = g at *
      by_cases hd : G g < 0
      · have hr : wors (fun y => G (bel nx lp f x y)) 4 = -1 := if_neg fun h => by have := h k hlt; simp only [hgg] at this; omega
        repeat (first | refine awp_seq ?_ | refine then_n ?_ | refine then_r ?_ | refine then_x ?_ | refine block_n ?_ | refine block_r ?_ | refine block_x ?_ | refine u_y ?_ | refine loop_r ?_ | refine loop_x ?_ | refine awp_region ?_ | refine awpL_nil ?_ | refine awpQL_nil ?_ | refine awp_block ?_ | refine awp_skip ?_ | refine awp_exit ?_ | refine awp_label ?_ | refine u_dT ?_ | refine u_d ?_ | ((first | apply c_l | apply c_q | apply c_lr | apply c_qr); (iterate 2 exact rfl); (focus (first | exact e1 | exact e2 | exact e3)); (iterate 2 exact rfl)) | (apply v_c; (iterate 4 exact rfl); (focus (first | exact e1 | exact e2 | exact e3)); (iterate 2 exact rfl)) | refine u_l ?_ | refine u_o ?_ | refine u_q ?_ | refine u_lr ?_ | refine u_qr ?_ | refine u_ls ?_ | refine u_qs ?_ | refine u_t ?_ | refine u_f ?_ | refine v_s ?_ | refine v_o ?_ | refine v_on ?_ | refine v_og ?_ | refine v_q ?_ | refine v_sr ?_ | refine v_k ?_ | refine m_nil ?_)
        (refine awp_ret ?_; (repeat (first | refine then_r ?_ | refine block_r ?_ | refine loop_r ?_)); apply ret_ok (.inr rfl); (focus exact rfl))
        rw [hr]
      · have e4 := spec_l00Max (a := wst (fun y => G (bel nx lp f x y)) k) (b := G g)
        repeat (first | refine awp_seq ?_ | refine then_n ?_ | refine then_r ?_ | refine then_x ?_ | refine block_n ?_ | refine block_r ?_ | refine block_x ?_ | refine u_y ?_ | refine loop_r ?_ | refine loop_x ?_ | refine awp_region ?_ | refine awpL_nil ?_ | refine awpQL_nil ?_ | refine awp_block ?_ | refine awp_skip ?_ | refine awp_exit ?_ | refine awp_label ?_ | refine u_dT ?_ | refine u_d ?_ | ((first | apply c_l | apply c_q | apply c_lr | apply c_qr); (iterate 2 exact rfl); (focus (first | exact e1 | exact e2 | exact e3 | exact e4)); (iterate 2 exact rfl)) | (apply v_c; (iterate 4 exact rfl); (focus (first | exact e1 | exact e2 | exact e3 | exact e4)); (iterate 2 exact rfl)) | refine u_l ?_ | refine u_o ?_ | refine u_q ?_ | refine u_lr ?_ | refine u_qr ?_ | refine u_ls ?_ | refine u_qs ?_ | refine u_t ?_ | refine u_f ?_ | refine v_s ?_ | refine v_o ?_ | refine v_on ?_ | refine v_og ?_ | refine v_q ?_ | refine v_sr ?_ | refine v_k ?_ | refine m_nil ?_)
        refine loop_n (k + 1) ⟨by omega, fun y hy => ?_⟩ ?_ rfl (by omega)
        · by_cases e : y = k
          · subst e; rw [hgg]; omega
          · exact hg y (by omega)
        · rw [hstep]
          ((repeat (first | exact trivial | (refine ⟨?_, ?_⟩; (focus (first | rfl | (simp [lk, argsS, args0]; done) | (simp [lk, argsS, args0]; omega)))))))
    · have : k = 4 := by omega
      subst this
      have hr : wors (fun y => G (bel nx lp f x y)) 4 = wst (fun y => G (bel nx lp f x y)) 4 := if_pos hg
      repeat (first | refine awp_seq ?_ | refine then_n ?_ | refine then_r ?_ | refine then_x ?_ | refine block_n ?_ | refine block_r ?_ | refine block_x ?_ | refine u_y ?_ | refine loop_r ?_ | refine loop_x ?_ | refine awp_region ?_ | refine awpL_nil ?_ | refine awpQL_nil ?_ | refine awp_block ?_ | refine awp_skip ?_ | refine awp_exit ?_ | refine awp_label ?_ | refine u_dT ?_ | refine u_d ?_ | refine u_l ?_ | refine u_o ?_ | refine u_q ?_ | refine u_lr ?_ | refine u_qr ?_ | refine u_ls ?_ | refine u_qs ?_ | refine u_t ?_ | refine u_f ?_ | refine v_s ?_ | refine v_o ?_ | refine v_on ?_ | refine v_og ?_ | refine v_q ?_ | refine v_sr ?_ | refine v_k ?_ | refine m_nil ?_)
      (refine awp_ret ?_; (repeat (first | refine then_r ?_ | refine block_r ?_ | refine loop_r ?_)); apply ret_ok (.inr rfl); (focus exact rfl))
      rw [hr]

end Go.Proofs.Ytkomkhigcdkpdaa
