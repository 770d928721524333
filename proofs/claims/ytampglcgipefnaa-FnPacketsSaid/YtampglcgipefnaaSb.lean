/- Contracts of sets of states as bits. No condition. -/
import Derived.Test.YtampglcgipefnaaSa
import Derived.Test.YtampglcgipefnaaMa
namespace Go.Proofs.Ytampglcgipefnaa
open Go
attribute [local irreducible] awp awpL awpQL awpQ awpM pWalk Qt AC thenQ blockQ loopQ OpTo
set_option linter.unusedVariables false
set_option linter.unusedSimpArgs false
set_option maxHeartbeats 2000000
attribute [local irreducible] HC

/-! ### Plain sets -/

def setTo (f s : Nat) : List Int := ((List.range s).filter fun i => f.testBit i).map fun i : Nat => (i : Int)
def setN (f : Nat) : List Int := setTo f 64
def bitsL (acc : Nat) (l : List Int) : Nat := l.foldl (fun f x => f ||| 2 ^ x.toNat) acc

theorem setTo_succ (f s : Nat) : setTo f (s + 1) = setTo f s ++ (if f.testBit s then [(s : Int)] else []) := by
  unfold setTo
  rw [List.range_succ, List.filter_append, List.map_append]
  congr 1
  cases h : f.testBit s <;> simp [h]

theorem mem_setTo {f s : Nat} {x : Int} : x ∈ setTo f s ↔ ∃ i : Nat, i < s ∧ f.testBit i = true ∧ x = i := by
  unfold setTo
  simp only [List.mem_map, List.mem_filter, List.mem_range]
  constructor
  · rintro ⟨i, ⟨h1, h2⟩, rfl⟩; exact ⟨i, h1, h2, rfl⟩
  · rintro ⟨i, h1, h2, rfl⟩; exact ⟨i, ⟨h1, h2⟩, rfl⟩

theorem setTo_length (f s : Nat) : (setTo f s).length ≤ s := by
  unfold setTo
  rw [List.length_map]
  exact Nat.le_trans (List.length_filter_le _ _) (by simp)

theorem shr_zero {f s : Nat} (h : f >>> s = 0) {i : Nat} (hi : s ≤ i) : f.testBit i = false := by
  have h1 : f < 2 ^ s := by
    rw [Nat.shiftRight_eq_div_pow] at h
    rcases Nat.lt_or_ge f (2 ^ s) with h' | h'
    · exact h'
    · have := Nat.div_pos h' (Nat.two_pow_pos s)
      omega
  exact Nat.testBit_lt_two_pow (Nat.lt_of_lt_of_le h1 (Nat.pow_le_pow_right (by omega) hi))

theorem setTo_end {f : Nat} : ∀ (d s : Nat), f >>> s = 0 → setTo f (s + d) = setTo f s
  | 0, s, _ => rfl
  | d + 1, s, h => by
    rw [← Nat.add_assoc, setTo_succ, setTo_end d s h, shr_zero h (by omega)]
    simp

theorem setTo_pairwise (f s : Nat) : (setTo f s).Pairwise (· < ·) := by
  unfold setTo
  refine List.Pairwise.map _ (fun a b h => ?_) (List.Pairwise.filter _ (List.pairwise_lt_range))
  exact_mod_cast h

theorem testBit_bitsL {i : Nat} : ∀ (l : List Int) (acc : Nat), (bitsL acc l).testBit i = (acc.testBit i || l.any fun x => decide (x.toNat = i))
  | [], acc => by simp [bitsL]
  | x :: l, acc => by
    have := testBit_bitsL (i := i) l (acc ||| 2 ^ x.toNat)
    unfold bitsL at this ⊢
    simp only [List.foldl_cons, List.any_cons]
    rw [this, Nat.testBit_or, Nat.testBit_two_pow, Bool.or_assoc]

theorem bitsL_lt : ∀ (l : List Int) (acc : Nat), acc < 18446744073709551616 → (∀ x ∈ l, x.toNat < 64) → bitsL acc l < 18446744073709551616
  | [], acc, h, _ => h
  | x :: l, acc, h, hl => by
    unfold bitsL
    simp only [List.foldl_cons]
    have h2 : 2 ^ x.toNat < 2 ^ 64 := Nat.pow_lt_pow_right (by omega) (hl x (List.mem_cons_self ..))
    exact bitsL_lt l _ (Nat.or_lt_two_pow (n := 64) h h2) fun y hy => hl y (List.mem_cons_of_mem _ hy)

theorem bitsL_take {l : List Int} {k : Nat} (hk : k < l.length) : bitsL 0 (l.take (k + 1)) = bitsL 0 (l.take k) ||| 2 ^ l[k].toNat := by
  unfold bitsL
  rw [List.take_succ_eq_append_getElem hk, List.foldl_append]
  rfl

/-- Rising lists with the same elements are the same. -/
theorem ris_ext : ∀ {a b : List Int}, a.Pairwise (· < ·) → b.Pairwise (· < ·) → (∀ x, x ∈ a ↔ x ∈ b) → a = b
  | [], [], _, _, _ => rfl
  | [], y :: b, _, _, h => by have := (h y).2 (List.mem_cons_self ..); cases this
  | x :: a, [], _, _, h => by have := (h x).1 (List.mem_cons_self ..); cases this
  | x :: a, y :: b, ha, hb, h => by
    have ha' := List.pairwise_cons.1 ha
    have hb' := List.pairwise_cons.1 hb
    have hxy : x = y := by
      rcases List.mem_cons.1 ((h x).1 (List.mem_cons_self ..)) with e | e
      · exact e
      · rcases List.mem_cons.1 ((h y).2 (List.mem_cons_self ..)) with e' | e'
        · exact e'.symm
        · have h1 := hb'.1 x e
          have h2 := ha'.1 y e'
          omega
    subst hxy
    congr 1
    refine ris_ext ha'.2 hb'.2 fun z => ⟨fun hz => ?_, fun hz => ?_⟩
    · rcases List.mem_cons.1 ((h z).1 (List.mem_cons_of_mem _ hz)) with e | e
      · have := ha'.1 z hz; omega
      · exact e
    · rcases List.mem_cons.1 ((h z).2 (List.mem_cons_of_mem _ hz)) with e | e
      · have := hb'.1 z hz; omega
      · exact e

/-- The set of the bits of numbers. -/
theorem mem_bits {l : List Int} (hl : ∀ x ∈ l, 0 ≤ x ∧ x < 64) {x : Int} : x ∈ setN (bitsL 0 l) ↔ x ∈ l := by
  unfold setN
  rw [mem_setTo]
  constructor
  · rintro ⟨i, h1, h2, rfl⟩
    rw [testBit_bitsL] at h2
    simp only [Nat.zero_testBit, Bool.false_or, List.any_eq_true, decide_eq_true_eq] at h2
    obtain ⟨y, hy, e⟩ := h2
    have := hl y hy
    have : y = (i : Int) := by omega
    rwa [← this]
  · intro hx
    have := hl x hx
    refine ⟨x.toNat, by omega, ?_, by omega⟩
    rw [testBit_bitsL]
    simp only [Nat.zero_testBit, Bool.false_or, List.any_eq_true, decide_eq_true_eq]
    exact ⟨x, hx, rfl⟩

theorem setN_bits {l : List Int} (hl : ∀ x ∈ l, 0 ≤ x ∧ x < 64) (hr : l.Pairwise (· < ·)) : setN (bitsL 0 l) = l :=
  ris_ext (setTo_pairwise _ _) hr fun _ => mem_bits hl

/-! ### Contracts -/

theorem impl_setH {f : Nat} (hf : f < 18446744073709551616) : HC Try.prog 57 [.d (.int .u64 f)] [] (.own 30000) [(30000, .arr 2 1 ((setN f).map (.int .i64)))] := by
  refine hc_intro tabIs _ Try.func57 rfl rfl Try.ntmps57 rfl rfl rfl ?_ fun w0 ok0 XM XA anc => ?_
  · exact likeIn_nil
  repeat (first | refine v_w (t := 5) ?_ | refine awp_seq ?_ | refine then_n ?_ | refine then_r ?_ | refine then_x ?_ | refine block_n ?_ | refine block_r ?_ | refine block_x ?_ | refine u_y ?_ | refine loop_r ?_ | refine loop_x ?_ | refine awp_region ?_ | refine awpL_nil ?_ | refine awpQL_nil ?_ | refine awp_block ?_ | refine awp_skip ?_ | refine awp_exit ?_ | refine awp_label ?_ | refine u_dT ?_ | refine u_d ?_ | refine u_w (t := 5) ?_ | refine u_l ?_ | refine u_o ?_ | refine u_q ?_ | refine u_lr ?_ | refine u_qr ?_ | refine u_ls ?_ | refine u_qs ?_ | refine u_t ?_ | refine u_f ?_ | refine v_s ?_ | refine v_o ?_ | refine v_on ?_ | refine v_og ?_ | refine v_q ?_ | refine v_sr ?_ | refine v_k ?_ | refine m_nil ?_)
  refine awp_loop (fun s : Nat => s ≤ 64) (fun s => [(0, .d (.int .u64 f)), (3, .own 5), (4, .d (.int .i64 s))]) (fun s => [(5, .arr 2 1 ((setTo f s).map (.int .i64)))]) (fun s => 64 - s) 0 (by omega) ?_ rfl ?_
  · ((repeat (first | exact trivial | (refine ⟨?_, ?_⟩; (focus (first | rfl | (simp [lk, argsS, args0]; done) | (simp [lk, argsS, args0]; omega)))))))
  · intro s hs
    have hlen := setTo_length f s
    have hq : 0 ≤ bshr f s ∧ bshr f s < 18446744073709551616 := by
      unfold bshr
      simp only [Int.toNat_natCast]
      have : f >>> s ≤ f := Nat.shiftRight_le f s
      generalize f >>> s = g at *
      omega
    by_cases h0 : f >>> s = 0
    · have hc : decide (0 < bshr (f : Int) (s : Int)) = false := by simp [bshr, h0]
      have he := setTo_end (f := f) (64 - s) s h0
      rw [show s + (64 - s) = 64 by omega] at he
      repeat (first | refine awp_seq ?_ | refine then_n ?_ | refine then_r ?_ | refine then_x ?_ | refine block_n ?_ | refine block_r ?_ | refine block_x ?_ | refine u_y ?_ | refine loop_r ?_ | refine loop_x ?_ | refine awp_region ?_ | refine awpL_nil ?_ | refine awpQL_nil ?_ | refine awp_block ?_ | refine awp_skip ?_ | refine awp_exit ?_ | refine awp_label ?_ | refine u_dT ?_ | refine u_d ?_ | ((first | apply x_l | apply x_q | apply x_lr | apply x_qr); (focus (first | (apply qb_shr; (iterate 4 (focus (first | exact rfl | (first | assumption | omega | (simp; omega) | (simp; done) | rfl))))))); exact rfl) | (apply v_x; (iterate 2 exact rfl); (focus (intro ok0 nw hle; (first | (apply qb_shr; (iterate 4 (focus (first | exact rfl | (first | assumption | omega | (simp; omega) | (simp; done) | rfl)))))))); (iterate 2 exact rfl)) | refine u_l ?_ | refine u_o ?_ | refine u_q ?_ | refine u_lr ?_ | refine u_qr ?_ | refine u_ls ?_ | refine u_qs ?_ | refine u_t ?_ | refine u_f ?_ | refine v_s ?_ | refine v_o ?_ | refine v_on ?_ | refine v_og ?_ | refine v_q ?_ | refine v_sr ?_ | refine v_k ?_ | refine m_nil ?_)
      (refine awp_ret ?_; (repeat (first | refine then_r ?_ | refine block_r ?_ | refine loop_r ?_)); refine u_rH [(5, 30000)] ?_ ?_)
      · rfl
      · unfold setN; rw [he]; rfl
    · have hs64 : s < 64 := by
        rcases Nat.lt_or_ge s 64 with h | h
        · exact h
        · exfalso
          apply h0
          rw [Nat.shiftRight_eq_div_pow, Nat.div_eq_of_lt]
          exact Nat.lt_of_lt_of_le (by omega : f < 2 ^ 64) (Nat.pow_le_pow_right (by omega) h)
      have hc : decide (0 < bshr (f : Int) (s : Int)) = true := by
        unfold bshr
        simp only [Int.toNat_natCast, decide_eq_true_eq]
        generalize f >>> s = g at *
        omega
      have hb : band (bshr f s) 1 = if f.testBit s then 1 else 0 := by
        unfold band bshr
        simp only [Int.toNat_natCast]
        have : (f >>> s) &&& 1 = if f.testBit s then 1 else 0 := by
          rw [Nat.testBit_eq_decide_div_mod_eq, Nat.and_one_is_mod, Nat.shiftRight_eq_div_pow]
          by_cases h : f / 2 ^ s % 2 = 1
          · simp [h]
          · simp [h]; omega
        show (((f >>> s) &&& 1 : Nat) : Int) = _
        rw [this]
        split <;> rfl
      have hsucc := setTo_succ f s
      cases ht : f.testBit s
      · rw [ht] at hb hsucc
        have hd : decide (band (bshr (f : Int) (s : Int)) 1 = 1) = false := by simp [hb]
        repeat (first | refine awp_seq ?_ | refine then_n ?_ | refine then_r ?_ | refine then_x ?_ | refine block_n ?_ | refine block_r ?_ | refine block_x ?_ | refine u_y ?_ | refine loop_r ?_ | refine loop_x ?_ | refine awp_region ?_ | refine awpL_nil ?_ | refine awpQL_nil ?_ | refine awp_block ?_ | refine awp_skip ?_ | refine awp_exit ?_ | refine awp_label ?_ | refine u_dT ?_ | refine u_d ?_ | ((first | apply x_l | apply x_q | apply x_lr | apply x_qr); (focus (first | (apply qb_shr; (iterate 4 (focus (first | exact rfl | (first | assumption | omega | (simp; omega) | (simp; done) | rfl))))) | (apply qb_and; (iterate 4 (focus (first | exact rfl | (first | assumption | omega | (simp; omega) | (simp; done) | rfl))))))); exact rfl) | (apply v_x; (iterate 2 exact rfl); (focus (intro ok0 nw hle; (first | (apply qb_shr; (iterate 4 (focus (first | exact rfl | (first | assumption | omega | (simp; omega) | (simp; done) | rfl))))) | (apply qb_and; (iterate 4 (focus (first | exact rfl | (first | assumption | omega | (simp; omega) | (simp; done) | rfl)))))))); (iterate 2 exact rfl)) | refine u_l ?_ | refine u_o ?_ | refine u_q ?_ | refine u_lr ?_ | refine u_qr ?_ | refine u_ls ?_ | refine u_qs ?_ | refine u_t ?_ | refine u_f ?_ | refine v_s ?_ | refine v_o ?_ | refine v_on ?_ | refine v_og ?_ | refine v_q ?_ | refine v_sr ?_ | refine v_k ?_ | refine m_nil ?_)
        refine loop_n (s + 1) (by omega) ?_ ?_ (by omega)
        · ((repeat (first | exact trivial | (refine ⟨?_, ?_⟩; (focus (first | rfl | (simp [lk, argsS, args0]; done) | (simp [lk, argsS, args0]; omega)))))))
        · rw [hsucc]; simp
      · rw [ht] at hb hsucc
        have hd : decide (band (bshr (f : Int) (s : Int)) 1 = 1) = true := by simp [hb]
        repeat (first | refine awp_seq ?_ | refine then_n ?_ | refine then_r ?_ | refine then_x ?_ | refine block_n ?_ | refine block_r ?_ | refine block_x ?_ | refine u_y ?_ | refine loop_r ?_ | refine loop_x ?_ | refine awp_region ?_ | refine awpL_nil ?_ | refine awpQL_nil ?_ | refine awp_block ?_ | refine awp_skip ?_ | refine awp_exit ?_ | refine awp_label ?_ | refine u_dT ?_ | refine u_d ?_ | ((first | apply x_l | apply x_q | apply x_lr | apply x_qr); (focus (first | (apply qb_shr; (iterate 4 (focus (first | exact rfl | (first | assumption | omega | (simp; omega) | (simp; done) | rfl))))) | (apply qb_and; (iterate 4 (focus (first | exact rfl | (first | assumption | omega | (simp; omega) | (simp; done) | rfl))))))); exact rfl) | (apply v_x; (iterate 2 exact rfl); (focus (intro ok0 nw hle; (first | (apply qb_shr; (iterate 4 (focus (first | exact rfl | (first | assumption | omega | (simp; omega) | (simp; done) | rfl))))) | (apply qb_and; (iterate 4 (focus (first | exact rfl | (first | assumption | omega | (simp; omega) | (simp; done) | rfl)))))))); (iterate 2 exact rfl)) | refine u_l ?_ | refine u_o ?_ | refine u_q ?_ | refine u_lr ?_ | refine u_qr ?_ | refine u_ls ?_ | refine u_qs ?_ | refine u_t ?_ | refine u_f ?_ | refine v_s ?_ | refine v_o ?_ | refine v_on ?_ | refine v_og ?_ | refine v_q ?_ | refine v_sr ?_ | refine v_k ?_ | refine m_nil ?_)
        refine loop_n (s + 1) (by omega) ?_ ?_ (by omega)
        · ((repeat (first | exact trivial | (refine ⟨?_, ?_⟩; (focus (first | rfl | (simp [lk, argsS, args0]; done) | (simp [lk, argsS, args0]; omega)))))))
        · rw [hsucc]; simp [killH, keepH, memB]

theorem impl_set {f : Nat} (hf : f < 18446744073709551616) : AC Try.prog 57 [.int .u64 f] (ints (setN f)) := ac_of_hc (impl_setH hf) rfl

theorem two_lt {x : Int} (h : 0 ≤ x ∧ x < 64) : 0 ≤ two x ∧ two x < 18446744073709551616 := by
  unfold two
  have : 2 ^ x.toNat < 2 ^ 64 := Nat.pow_lt_pow_right (by omega) (by omega)
  generalize 2 ^ x.toNat = n at *
  omega
theorem two_eq {x : Int} : two x = ((2 ^ x.toNat : Nat) : Int) := rfl
theorem bor_eq {a b : Nat} : bor (a : Int) (b : Int) = ((a ||| b : Nat) : Int) := by simp [bor]

theorem impl_flockOf {l : List Int} (hl : ∀ x ∈ l, 0 ≤ x ∧ x < 64) (hn : l.length ≤ 9223372036854775807) : AC Try.prog 40 [ints l] (.int .u64 (bitsL 0 l)) := by
  have hle : (List.map (D.int IntKind.i64) l).length = l.length := by simp
  refine ac_intro tabIs _ Try.func40 rfl rfl Try.ntmps40 rfl rfl fun w0 ok0 => ?_
  repeat (first | refine awp_seq ?_ | refine then_n ?_ | refine then_r ?_ | refine then_x ?_ | refine block_n ?_ | refine block_r ?_ | refine block_x ?_ | refine u_y ?_ | refine loop_r ?_ | refine loop_x ?_ | refine awp_region ?_ | refine awpL_nil ?_ | refine awpQL_nil ?_ | refine awp_block ?_ | refine awp_skip ?_ | refine awp_exit ?_ | refine awp_label ?_ | refine u_dT ?_ | refine u_d ?_ | refine u_l ?_ | refine u_o ?_ | refine u_q ?_ | refine u_lr ?_ | refine u_qr ?_ | refine u_ls ?_ | refine u_qs ?_ | refine u_t ?_ | refine u_f ?_ | refine v_s ?_ | refine v_o ?_ | refine v_on ?_ | refine v_og ?_ | refine v_q ?_ | refine v_sr ?_ | refine v_k ?_ | refine m_nil ?_)
  refine awp_loop (fun k : Nat => k ≤ l.length) (fun k => [(3, .d (.int .u64 (bitsL 0 (l.take k)))), (6, .d (ints l)), (7, .d (.int .i64 l.length)), (8, .d (.int .i64 k))]) (fun _ => []) (fun k => l.length - k) 0 (by omega) ?_ rfl ?_
  · refine ⟨?_, rfl, ?_, rfl, trivial⟩ <;> simp [lk, args0, bitsL]
  · intro k hk
    have hlt0 := bitsL_lt (l.take k) 0 (by omega) fun x hx => by have := hl x (List.mem_of_mem_take hx); omega
    by_cases hlt : k < l.length
    · have hx := el_int hlt
      have hb := hl _ (List.getElem_mem hlt)
      have h2 := two_lt hb
      repeat (first | refine awp_seq ?_ | refine then_n ?_ | refine then_r ?_ | refine then_x ?_ | refine block_n ?_ | refine block_r ?_ | refine block_x ?_ | refine u_y ?_ | refine loop_r ?_ | refine loop_x ?_ | refine awp_region ?_ | refine awpL_nil ?_ | refine awpQL_nil ?_ | refine awp_block ?_ | refine awp_skip ?_ | refine awp_exit ?_ | refine awp_label ?_ | refine u_dT ?_ | refine u_d ?_ | ((first | apply x_l | apply x_q | apply x_lr | apply x_qr); (focus (first | (apply qb_one; (iterate 2 (focus (first | exact rfl | (first | assumption | omega | (simp; omega) | (simp; done) | rfl))))) | (apply qb_or; (iterate 4 (focus (first | exact rfl | (first | assumption | omega | (simp; omega) | (simp; done) | rfl))))))); exact rfl) | (apply v_x; (iterate 2 exact rfl); (focus (intro ok0 nw hle; (first | (apply qb_one; (iterate 2 (focus (first | exact rfl | (first | assumption | omega | (simp; omega) | (simp; done) | rfl))))) | (apply qb_or; (iterate 4 (focus (first | exact rfl | (first | assumption | omega | (simp; omega) | (simp; done) | rfl)))))))); (iterate 2 exact rfl)) | refine u_l ?_ | refine u_o ?_ | refine u_q ?_ | refine u_lr ?_ | refine u_qr ?_ | refine u_ls ?_ | refine u_qs ?_ | refine u_t ?_ | refine u_f ?_ | refine v_s ?_ | refine v_o ?_ | refine v_on ?_ | refine v_og ?_ | refine v_q ?_ | refine v_sr ?_ | refine v_k ?_ | refine m_nil ?_)
      refine loop_n (k + 1) (by omega) ?_ rfl (by omega)
      refine ⟨?_, rfl, rfl, ?_, trivial⟩
      · simp only [lk, bitsL_take hlt, two_eq, bor_eq, Nat.reduceEqDiff, if_false, if_true]
      · simp [lk]
    · have : k = l.length := by omega
      subst this
      repeat (first | refine awp_seq ?_ | refine then_n ?_ | refine then_r ?_ | refine then_x ?_ | refine block_n ?_ | refine block_r ?_ | refine block_x ?_ | refine u_y ?_ | refine loop_r ?_ | refine loop_x ?_ | refine awp_region ?_ | refine awpL_nil ?_ | refine awpQL_nil ?_ | refine awp_block ?_ | refine awp_skip ?_ | refine awp_exit ?_ | refine awp_label ?_ | refine u_dT ?_ | refine u_d ?_ | refine u_l ?_ | refine u_o ?_ | refine u_q ?_ | refine u_lr ?_ | refine u_qr ?_ | refine u_ls ?_ | refine u_qs ?_ | refine u_t ?_ | refine u_f ?_ | refine v_s ?_ | refine v_o ?_ | refine v_on ?_ | refine v_og ?_ | refine v_q ?_ | refine v_sr ?_ | refine v_k ?_ | refine m_nil ?_)
      (refine awp_ret ?_; (repeat (first | refine then_r ?_ | refine block_r ?_ | refine loop_r ?_)); apply ret_ok (.inr rfl); (focus exact rfl))
      simp
end Go.Proofs.Ytampglcgipefnaa
