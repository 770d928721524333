/- Sets as numbers: contracts of the reference and of the program; the worst depth behind a letter. No condition. -/
import Derived.Test.YtampglcgipefnaaDa
namespace Go.Proofs.Ytampglcgipefnaa
open Go
attribute [local irreducible] awp awpL awpQL awpQ awpM pWalk Qt AC thenQ blockQ loopQ OpTo
set_option linter.unusedVariables false
set_option linter.unusedSimpArgs false
set_option maxHeartbeats 2000000
attribute [local irreducible] HC

theorem pow_le {m : Nat} (h : m ≤ 10) : 2 ^ m ≤ 1024 := (show 2 ^ m ≤ 2 ^ 10 from Nat.pow_le_pow_right (by omega) h)
theorem setN_lt {f m : Nat} (h : f < 2 ^ m) {q : Int} (hq : q ∈ setN f) : 0 ≤ q ∧ q < m := by
  obtain ⟨i, i1, i2, rfl⟩ := mem_setTo.1 hq
  refine ⟨by omega, ?_⟩
  rcases Nat.lt_or_ge i m with h' | h'
  · omega
  · have := Nat.testBit_lt_two_pow (Nat.lt_of_lt_of_le h (Nat.pow_le_pow_right (by omega) h'))
    rw [this] at i2; cases i2
theorem bits_lt {m : Nat} : ∀ (l : List Int) (acc : Nat), acc < 2 ^ m → (∀ x ∈ l, x.toNat < m) → bitsL acc l < 2 ^ m
  | [], acc, h, _ => h
  | x :: l, acc, h, hl => by
    unfold bitsL
    simp only [List.foldl_cons]
    have h2 : 2 ^ x.toNat < 2 ^ m := Nat.pow_lt_pow_right (by omega) (hl x (List.mem_cons_self ..))
    exact bits_lt l _ (Nat.or_lt_two_pow h h2) fun y hy => hl y (List.mem_cons_of_mem _ hy)
theorem bits_set {f : Nat} (h : f < 2 ^ 64) : bitsL 0 (setN f) = f := by
  apply Nat.eq_of_testBit_eq
  intro i
  rw [testBit_bitsL]
  simp only [Nat.zero_testBit, Bool.false_or]
  by_cases hi : i < 64
  · cases ht : f.testBit i
    · rw [List.any_eq_false]
      intro x hx
      obtain ⟨k, k1, k2, rfl⟩ := mem_setTo.1 hx
      simp only [Int.toNat_natCast, decide_eq_true_eq]
      rintro rfl
      rw [ht] at k2; cases k2
    · rw [List.any_eq_true]
      exact ⟨i, mem_setTo.2 ⟨i, hi, ht, rfl⟩, by simp⟩
  · have : f.testBit i = false := Nat.testBit_lt_two_pow (Nat.lt_of_lt_of_le h (Nat.pow_le_pow_right (by omega) (by omega)))
    rw [this, List.any_eq_false]
    intro x hx
    obtain ⟨k, k1, k2, rfl⟩ := mem_setTo.1 hx
    simp; omega

/-- Is a set known at once? -/
def sm (f : Nat) : Bool := decide (f &&& (f - 1) = 0)
/-- What is believed, as numbers. -/
def bel (nx : List (List Int)) (lp : List Int) (f x y : Nat) : Nat := belB nx lp f x y

theorem bel_lt {s : Int} {nx : List (List Int)} {lp : List Int} (v : LV s nx lp) {f x y : Nat} (hf : f < 2 ^ s.toNat) (hx : x < nx.length) : bel nx lp f x y < 2 ^ s.toNat := by
  have hs := v.s1
  have hL : ∀ q ∈ setN f, 0 ≤ q ∧ q < s := fun q hq => by have := setN_lt hf hq; omega
  unfold bel belB
  refine bits_lt _ 0 (Nat.two_pow_pos _) fun q hq => ?_
  have h1 := (step_mem v hL (x := (x : Int)) (by omega)).1 (List.mem_filter.1 hq).1
  have := step_lt v hL (x := (x : Int)) (by omega) q h1
  omega

theorem impl_isSmall {f : Nat} (hf : f < 1024) : AC Try.prog 46 [.int .u64 f] (.bool (sm f)) := by
  by_cases h0 : f = 0
  · subst h0
    have hw : IntKind.u64.wrap (((0 : Nat) : Int) - 1) = 18446744073709551615 := by decide
    have hq : 0 ≤ IntKind.u64.wrap (((0 : Nat) : Int) - 1) ∧ IntKind.u64.wrap (((0 : Nat) : Int) - 1) < 18446744073709551616 := by rw [hw]; omega
    refine ac_intro tabIs _ Try.func46 rfl rfl Try.ntmps46 rfl rfl fun w0 ok0 => ?_
    repeat (first | refine zc ?_ | ((first | apply x_l | apply x_q | apply x_lr | apply x_qr); (focus (first | (apply qb_subU; (iterate 2 (focus (first | exact rfl | (first | assumption | omega | (simp; omega) | (simp; done) | rfl))))) | (apply qb_and; (iterate 4 (focus (first | exact rfl | (first | assumption | omega | (simp; omega) | (simp; done) | rfl))))))); exact rfl) | (apply v_x; (iterate 2 exact rfl); (focus (intro ok0 nw hle; (first | (apply qb_subU; (iterate 2 (focus (first | exact rfl | (first | assumption | omega | (simp; omega) | (simp; done) | rfl))))) | (apply qb_and; (iterate 4 (focus (first | exact rfl | (first | assumption | omega | (simp; omega) | (simp; done) | rfl)))))))); (iterate 2 exact rfl)) | refine zv ?_)
    (refine awp_ret ?_; (repeat (first | refine then_r ?_ | refine block_r ?_ | refine loop_r ?_)); apply ret_ok (.inr rfl); (focus exact rfl))
    simp [band, sm]
  · have hw : IntKind.u64.wrap ((f : Int) - 1) = ((f - 1 : Nat) : Int) := by
      rw [show (f : Int) - 1 = ((f - 1 : Nat) : Int) by omega]
      exact u64_wrap (by omega)
    have hq : 0 ≤ IntKind.u64.wrap ((f : Int) - 1) ∧ IntKind.u64.wrap ((f : Int) - 1) < 18446744073709551616 := by rw [hw]; omega
    refine ac_intro tabIs _ Try.func46 rfl rfl Try.ntmps46 rfl rfl fun w0 ok0 => ?_
    repeat (first | refine zc ?_ | ((first | apply x_l | apply x_q | apply x_lr | apply x_qr); (focus (first | (apply qb_subU; (iterate 2 (focus (first | exact rfl | (first | assumption | omega | (simp; omega) | (simp; done) | rfl))))) | (apply qb_and; (iterate 4 (focus (first | exact rfl | (first | assumption | omega | (simp; omega) | (simp; done) | rfl))))))); exact rfl) | (apply v_x; (iterate 2 exact rfl); (focus (intro ok0 nw hle; (first | (apply qb_subU; (iterate 2 (focus (first | exact rfl | (first | assumption | omega | (simp; omega) | (simp; done) | rfl))))) | (apply qb_and; (iterate 4 (focus (first | exact rfl | (first | assumption | omega | (simp; omega) | (simp; done) | rfl)))))))); (iterate 2 exact rfl)) | refine zv ?_)
    (refine awp_ret ?_; (repeat (first | refine then_r ?_ | refine block_r ?_ | refine loop_r ?_)); apply ret_ok (.inr rfl); (focus exact rfl))
    rw [hw]
    simp only [band, Int.toNat_natCast, sm]
    congr 1
    apply decide_eq_decide.2
    omega

theorem spec_l02Single {f : Nat} (hf : f < 1024) : AC Try.prog 77 [.int .i64 f] (.bool (sm f)) := by
  by_cases h0 : f = 0
  · subst h0
    refine ac_intro tabIs _ Try.func77 rfl rfl Try.ntmps77 rfl rfl fun w0 ok0 => ?_
    repeat (first | refine zc ?_ | ((first | apply x_l | apply x_q | apply x_lr | apply x_qr); (focus (first | (apply qi_and0; (iterate 2 (focus (first | exact rfl | (first | assumption | omega | (simp; omega) | (simp; done) | rfl))))))); exact rfl) | (apply v_x; (iterate 2 exact rfl); (focus (intro ok0 nw hle; (first | (apply qi_and0; (iterate 2 (focus (first | exact rfl | (first | assumption | omega | (simp; omega) | (simp; done) | rfl)))))))); (iterate 2 exact rfl)) | refine zv ?_)
    (refine awp_ret ?_; (repeat (first | refine then_r ?_ | refine block_r ?_ | refine loop_r ?_)); apply ret_ok (.inr rfl); (focus exact rfl))
    rfl
  · refine ac_intro tabIs _ Try.func77 rfl rfl Try.ntmps77 rfl rfl fun w0 ok0 => ?_
    repeat (first | refine zc ?_ | ((first | apply x_l | apply x_q | apply x_lr | apply x_qr); (focus (first | (apply qi_and; (iterate 4 (focus (first | exact rfl | (first | assumption | omega | (simp; omega) | (simp; done) | rfl))))))); exact rfl) | (apply v_x; (iterate 2 exact rfl); (focus (intro ok0 nw hle; (first | (apply qi_and; (iterate 4 (focus (first | exact rfl | (first | assumption | omega | (simp; omega) | (simp; done) | rfl)))))))); (iterate 2 exact rfl)) | refine zv ?_)
    (refine awp_ret ?_; (repeat (first | refine then_r ?_ | refine block_r ?_ | refine loop_r ?_)); apply ret_ok (.inr rfl); (focus exact rfl))
    have hb : band (f : Int) ((f : Int) - 1) = ((f &&& (f - 1) : Nat) : Int) := by
      unfold band
      rw [show ((f : Int) - 1).toNat = f - 1 by omega, Int.toNat_natCast]
    unfold sm
    congr 1
    apply decide_eq_decide.2
    rw [hb]
    omega

theorem spec_l02Bits {l : List Int} (hl : ∀ x ∈ l, 0 ≤ x ∧ x < 10) (hn : l.length ≤ 9223372036854775807) : AC Try.prog 37 [ints l] (.int .i64 (bitsL 0 l)) := by
  have hle : (List.map (D.int IntKind.i64) l).length = l.length := by simp
  refine ac_intro tabIs _ Try.func37 rfl rfl Try.ntmps37 rfl rfl fun w0 ok0 => ?_
  repeat (first | refine zc ?_ | refine zv ?_)
  refine awp_loop (fun k : Nat => k ≤ l.length) (fun k => [(0, .d (ints l)), (3, .d (.int .i64 (bitsL 0 (l.take k)))), (4, .d (.int .i64 k))]) (fun _ => []) (fun k => l.length - k) 0 (by omega) ?_ rfl ?_
  · refine ⟨rfl, ?_, rfl, trivial⟩ <;> simp [lk, args0, bitsL]
  · intro k hk
    have hlt0 := bits_lt (m := 10) (l.take k) 0 (by omega) fun x hx => by have := hl x (List.mem_of_mem_take hx); omega
    by_cases hlt : k < l.length
    · have hx := el_int hlt
      have hb := hl _ (List.getElem_mem hlt)
      have h2 : 0 ≤ two l[k] ∧ two l[k] < 9223372036854775808 := by
        unfold two
        have : 2 ^ l[k].toNat < 2 ^ 10 := Nat.pow_lt_pow_right (by omega) (by omega)
        generalize 2 ^ l[k].toNat = n at *
        omega
      have h3 : 0 ≤ ((bitsL 0 (l.take k) : Nat) : Int) ∧ ((bitsL 0 (l.take k) : Nat) : Int) < 9223372036854775808 := by
        generalize bitsL 0 (l.take k) = n at *
        omega
      repeat (first | refine zc ?_ | ((first | apply x_l | apply x_q | apply x_lr | apply x_qr); (focus (first | (apply qi_conv; (iterate 5 (focus (first | exact rfl | (first | assumption | omega | (simp; omega) | (simp; done) | rfl))))) | (apply qi_one; (iterate 2 (focus (first | exact rfl | (first | assumption | omega | (simp; omega) | (simp; done) | rfl))))) | (apply qi_or; (iterate 4 (focus (first | exact rfl | (first | assumption | omega | (simp; omega) | (simp; done) | rfl))))))); exact rfl) | (apply v_x; (iterate 2 exact rfl); (focus (intro ok0 nw hle; (first | (apply qi_conv; (iterate 5 (focus (first | exact rfl | (first | assumption | omega | (simp; omega) | (simp; done) | rfl))))) | (apply qi_one; (iterate 2 (focus (first | exact rfl | (first | assumption | omega | (simp; omega) | (simp; done) | rfl))))) | (apply qi_or; (iterate 4 (focus (first | exact rfl | (first | assumption | omega | (simp; omega) | (simp; done) | rfl)))))))); (iterate 2 exact rfl)) | refine zv ?_)
      refine loop_n (k + 1) (by omega) ?_ rfl (by omega)
      refine ⟨rfl, ?_, rfl, trivial⟩
      simp only [lk, bitsL_take hlt, two_eq, bor_eq, Nat.reduceEqDiff, if_false, if_true]
    · have : k = l.length := by omega
      subst this
      repeat (first | refine zc ?_ | refine zv ?_)
      (refine awp_ret ?_; (repeat (first | refine then_r ?_ | refine block_r ?_ | refine loop_r ?_)); apply ret_ok (.inr rfl); (focus exact rfl))
      simp

theorem spec_l02Set {f : Nat} (hf : f < 1024) : AC Try.prog 106 [.int .i64 f] (ints (setN f)) := by
  refine ac_intro tabIs _ Try.func106 rfl rfl Try.ntmps106 rfl rfl fun w0 ok0 => ?_
  repeat (first | refine v_w (t := 5) ?_ | refine zc ?_ | refine u_w (t := 5) ?_ | refine zv ?_)
  refine awp_loop (fun s : Nat => s ≤ 64) (fun s => [(0, .d (.int .i64 f)), (3, .own 5), (4, .d (.int .i64 s))]) (fun s => [(5, .arr 2 1 ((setTo f s).map (.int .i64)))]) (fun s => 64 - s) 0 (by omega) ?_ rfl ?_
  · exact zs
  · intro s hs
    have hlen := setTo_length f s
    have hq : 0 ≤ bshr f s ∧ bshr f s < 9223372036854775808 := by
      unfold bshr
      simp only [Int.toNat_natCast]
      have : f >>> s ≤ f := Nat.shiftRight_le f s
      generalize f >>> s = g at *
      omega
    by_cases h0 : f >>> s = 0
    · have hc : decide (0 < bshr (f : Int) (s : Int)) = false := by simp [bshr, h0]
      have he := setTo_end (f := f) (64 - s) s h0
      rw [show s + (64 - s) = 64 by omega] at he
      repeat (first | refine zc ?_ | ((first | apply x_l | apply x_q | apply x_lr | apply x_qr); (focus (first | (apply qi_conv; (iterate 5 (focus (first | exact rfl | (first | assumption | omega | (simp; omega) | (simp; done) | rfl))))) | (apply qi_shr; (iterate 4 (focus (first | exact rfl | (first | assumption | omega | (simp; omega) | (simp; done) | rfl))))))); exact rfl) | (apply v_x; (iterate 2 exact rfl); (focus (intro ok0 nw hle; (first | (apply qi_conv; (iterate 5 (focus (first | exact rfl | (first | assumption | omega | (simp; omega) | (simp; done) | rfl))))) | (apply qi_shr; (iterate 4 (focus (first | exact rfl | (first | assumption | omega | (simp; omega) | (simp; done) | rfl)))))))); (iterate 2 exact rfl)) | refine zv ?_)
      (refine awp_ret ?_; (repeat (first | refine then_r ?_ | refine block_r ?_ | refine loop_r ?_)); apply ret_ok (.inr rfl); (focus exact rfl))
      unfold setN; rw [he]; rfl
    · have hs64 : s < 64 := by
        rcases Nat.lt_or_ge s 64 with h | h
        · exact h
        · exfalso
          apply h0
          rw [Nat.shiftRight_eq_div_pow, Nat.div_eq_of_lt]
          exact Nat.lt_of_lt_of_le (by omega : f < 2 ^ 10) (Nat.pow_le_pow_right (by omega) (by omega))
      have hc : decide (0 < bshr (f : Int) (s : Int)) = true := by
        unfold bshr
        simp only [Int.toNat_natCast, decide_eq_true_eq]
        generalize f >>> s = g at *
        omega
      have hb : band (bshr f s) 1 = if f.testBit s then 1 else 0 := by
        unfold band bshr
        simp only [Int.toNat_natCast]
        have : (f >>> s) &&& 1 = if f.testBit s then 1 else 0 := by
          rw [Nat.testBit_eq_decide_div_mod_eq, Nat.and_one_is_mod, Nat.shiftRight_eq_div_pow]
          by_cases h : f / 2 ^ s % 2 = 1
          · simp [h]
          · simp [h]; omega
        show (((f >>> s) &&& 1 : Nat) : Int) = _
        rw [this]
        split <;> rfl
      have hsucc := setTo_succ f s
      cases ht : f.testBit s
      · rw [ht] at hb hsucc
        have hd : decide (band (bshr (f : Int) (s : Int)) 1 = 1) = false := by simp [hb]
        repeat (first | refine zc ?_ | ((first | apply x_l | apply x_q | apply x_lr | apply x_qr); (focus (first | (apply qi_conv; (iterate 5 (focus (first | exact rfl | (first | assumption | omega | (simp; omega) | (simp; done) | rfl))))) | (apply qi_shr; (iterate 4 (focus (first | exact rfl | (first | assumption | omega | (simp; omega) | (simp; done) | rfl))))) | (apply qi_and; (iterate 4 (focus (first | exact rfl | (first | assumption | omega | (simp; omega) | (simp; done) | rfl))))))); exact rfl) | (apply v_x; (iterate 2 exact rfl); (focus (intro ok0 nw hle; (first | (apply qi_conv; (iterate 5 (focus (first | exact rfl | (first | assumption | omega | (simp; omega) | (simp; done) | rfl))))) | (apply qi_shr; (iterate 4 (focus (first | exact rfl | (first | assumption | omega | (simp; omega) | (simp; done) | rfl))))) | (apply qi_and; (iterate 4 (focus (first | exact rfl | (first | assumption | omega | (simp; omega) | (simp; done) | rfl)))))))); (iterate 2 exact rfl)) | refine zv ?_)
        refine loop_n (s + 1) (by omega) ?_ ?_ (by omega)
        · exact zs
        · rw [hsucc]; simp
      · rw [ht] at hb hsucc
        have hd : decide (band (bshr (f : Int) (s : Int)) 1 = 1) = true := by simp [hb]
        repeat (first | refine zc ?_ | ((first | apply x_l | apply x_q | apply x_lr | apply x_qr); (focus (first | (apply qi_conv; (iterate 5 (focus (first | exact rfl | (first | assumption | omega | (simp; omega) | (simp; done) | rfl))))) | (apply qi_shr; (iterate 4 (focus (first | exact rfl | (first | assumption | omega | (simp; omega) | (simp; done) | rfl))))) | (apply qi_and; (iterate 4 (focus (first | exact rfl | (first | assumption | omega | (simp; omega) | (simp; done) | rfl))))))); exact rfl) | (apply v_x; (iterate 2 exact rfl); (focus (intro ok0 nw hle; (first | (apply qi_conv; (iterate 5 (focus (first | exact rfl | (first | assumption | omega | (simp; omega) | (simp; done) | rfl))))) | (apply qi_shr; (iterate 4 (focus (first | exact rfl | (first | assumption | omega | (simp; omega) | (simp; done) | rfl))))) | (apply qi_and; (iterate 4 (focus (first | exact rfl | (first | assumption | omega | (simp; omega) | (simp; done) | rfl)))))))); (iterate 2 exact rfl)) | refine zv ?_)
        refine loop_n (s + 1) (by omega) ?_ ?_ (by omega)
        · exact zs
        · rw [hsucc]; simp [killH, keepH, memB]

theorem spec_l00Max {a b : Int} : AC Try.prog 107 [.int .i64 a, .int .i64 b] (.int .i64 (max a b)) := by
  by_cases h : b < a
  · refine ac_intro tabIs _ Try.func107 rfl rfl Try.ntmps107 rfl rfl fun w0 ok0 => ?_
    repeat (first | refine zc ?_ | refine zv ?_)
    (refine awp_ret ?_; (repeat (first | refine then_r ?_ | refine block_r ?_ | refine loop_r ?_)); apply ret_ok (.inr rfl); (focus exact rfl))
    rw [Int.max_eq_left (by omega)]
  · refine ac_intro tabIs _ Try.func107 rfl rfl Try.ntmps107 rfl rfl fun w0 ok0 => ?_
    repeat (first | refine zc ?_ | refine zv ?_)
    (refine awp_ret ?_; (repeat (first | refine then_r ?_ | refine block_r ?_ | refine loop_r ?_)); apply ret_ok (.inr rfl); (focus exact rfl))
    rw [Int.max_eq_right (by omega)]

/-- The worst depth of some sets, -1 if one has none. -/
def wst (g : Nat → Int) : Nat → Int
  | 0 => 0
  | k + 1 => max (wst g k) (g k)
theorem wst_range {g : Nat → Int} : ∀ {k : Nat}, 0 ≤ wst g k
  | 0 => Int.le_refl _
  | k + 1 => by have := wst_range (g := g) (k := k); unfold wst; omega
theorem wst_lt {g : Nat → Int} {d : Nat} : ∀ {k : Nat}, wst g k < ((d + 1 : Nat) : Int) ↔ ∀ y, y < k → g y < ((d + 1 : Nat) : Int)
  | 0 => ⟨fun _ y h => by omega, fun _ => by unfold wst; omega⟩
  | k + 1 => by
    have ih := wst_lt (g := g) (d := d) (k := k)
    unfold wst
    constructor
    · intro h y hy
      by_cases e : y = k
      · subst e; omega
      · exact ih.1 (by omega) y (by omega)
    · intro h
      have h1 := ih.2 fun y hy => h y (by omega)
      have h2 := h k (by omega)
      omega
def wors (g : Nat → Int) (L : Nat) : Int := if ∀ y, y < L → 0 ≤ g y then wst g L else -1

/-- The set behind a letter and a lamp, in the reference. -/
theorem bel_list {s : Int} {nx : List (List Int)} {lp : List Int} (v : LV s nx lp) {f x y : Nat} (hf : f < 2 ^ s.toNat) (hx : x < nx.length) : (imgL nx (setN f) [(x : Int)]).filter (fun q => decide (lamp lp q = y)) = setN (bel nx lp f x y) := by
  have hs := v.s1
  have hL : ∀ q ∈ setN f, 0 ≤ q ∧ q < s := fun q hq => by have := setN_lt hf hq; omega
  have := bel_eq (x := x) (y := y) v hL (setTo_pairwise _ _) (by omega)
  have hp := pow_le (m := s.toNat) (by omega)
  rw [bits_set (by omega)] at this
  exact this.symm

theorem spec_l08Worst {s : Int} {nx : List (List Int)} {lp : List Int} {G : Nat → Int} (v : LV s nx lp) {f x : Nat} (hf : f < 2 ^ s.toNat) (hx : x < nx.length) :
    AC Try.prog 78 [.ptr (.agg [.int .i64 s, rows nx, ints lp]), ints (fnL (2 ^ s.toNat) G), .int .i64 f, .int .i64 x] (.int .i64 (wors (fun y => G (bel nx lp f x y)) 4)) := by
  have hs := v.s1
  have hp := pow_le (m := s.toNat) (by omega)
  have e1 := spec_l02Set (f := f) (by omega)
  have hL : ∀ q ∈ setN f, 0 ≤ q ∧ q < s := fun q hq => by have := setN_lt hf hq; omega
  have hLn : (setN f).length ≤ 64 := setTo_length f 64
  have hN : (fnL (2 ^ s.toNat) G).length = 2 ^ s.toNat := fnL_length
  have hN' : ((fnL (2 ^ s.toNat) G).map (D.int .i64)).length = 2 ^ s.toNat := by simp [fnL]
  refine ac_intro tabIs _ Try.func78 rfl rfl Try.ntmps78 rfl rfl fun w0 ok0 => ?_
  repeat (first | refine zc ?_ | refine zv ?_)
  refine awp_loop (fun k : Nat => k ≤ 4 ∧ ∀ y, y < k → 0 ≤ G (bel nx lp f x y)) (fun k => [(0, .d (.ptr (.agg [.int .i64 s, rows nx, ints lp]))), (1, .d (ints (fnL (2 ^ s.toNat) G))), (2, .d (.int .i64 f)), (3, .d (.int .i64 x)), (9, .d (.int .i64 (wst (fun y => G (bel nx lp f x y)) k))), (10, .d (.int .i64 k))]) (fun _ => []) (fun k => 4 - k) 0 (by exact ⟨by omega, fun y h => by omega⟩) ?_ rfl ?_
  · exact zs
  · rintro k ⟨hk, hg⟩
    by_cases hlt : k < 4
    · have e2 := spec_l08Believed (x := (x : Int)) (y := (k : Int)) v hL (by omega) (by omega)
      have hb := bel_lt (y := k) v hf hx
      rw [bel_list v hf hx] at e2
      have e3 := spec_l02Bits (l := setN (bel nx lp f x k)) (fun q hq => by have := setN_lt hb hq; omega) (by have := setTo_length (bel nx lp f x k) 64; unfold setN; omega)
      rw [bits_set (by omega)] at e3
      have hel := fnL_el (F := G) hb
      have hstep : wst (fun y => G (bel nx lp f x y)) (k + 1) = max (wst (fun y => G (bel nx lp f x y)) k) (G (bel nx lp f x k)) := rfl
      have hw : (0 : Nat) ≤ 0 → (∀ y, y < 4 → 0 ≤ G (bel nx lp f x y)) → 0 ≤ G (bel nx lp f x k) := fun _ h => h k hlt
      generalize hgg : bel nx lp f x k = g at *
      by_cases hd : G g < 0
      · have hr : wors (fun y => G (bel nx lp f x y)) 4 = -1 := if_neg fun h => by have := h k hlt; simp only [hgg] at this; omega
        repeat (first | refine zc ?_ | ((first | apply c_l | apply c_q | apply c_lr | apply c_qr); (iterate 2 exact rfl); (focus (first | exact e1 | exact e2 | exact e3)); (iterate 2 exact rfl)) | (apply v_c; (iterate 4 exact rfl); (focus (first | exact e1 | exact e2 | exact e3)); (iterate 2 exact rfl)) | refine zv ?_)
        (refine awp_ret ?_; (repeat (first | refine then_r ?_ | refine block_r ?_ | refine loop_r ?_)); apply ret_ok (.inr rfl); (focus exact rfl))
        rw [hr]
      · have e4 := spec_l00Max (a := wst (fun y => G (bel nx lp f x y)) k) (b := G g)
        repeat (first | refine zc ?_ | ((first | apply c_l | apply c_q | apply c_lr | apply c_qr); (iterate 2 exact rfl); (focus (first | exact e1 | exact e2 | exact e3 | exact e4)); (iterate 2 exact rfl)) | (apply v_c; (iterate 4 exact rfl); (focus (first | exact e1 | exact e2 | exact e3 | exact e4)); (iterate 2 exact rfl)) | refine zv ?_)
        refine loop_n (k + 1) ⟨by omega, fun y hy => ?_⟩ ?_ rfl (by omega)
        · by_cases e : y = k
          · subst e; rw [hgg]; omega
          · exact hg y (by omega)
        · rw [hstep]
          exact zs
    · have : k = 4 := by omega
      subst this
      have hr : wors (fun y => G (bel nx lp f x y)) 4 = wst (fun y => G (bel nx lp f x y)) 4 := if_pos hg
      repeat (first | refine zc ?_ | refine zv ?_)
      (refine awp_ret ?_; (repeat (first | refine then_r ?_ | refine block_r ?_ | refine loop_r ?_)); apply ret_ok (.inr rfl); (focus exact rfl))
      rw [hr]
end Go.Proofs.Ytampglcgipefnaa

/-! The depths of all sets, in the reference. No condition. -/
namespace Go.Proofs.Ytampglcgipefnaa
open Go
attribute [local irreducible] awp awpL awpQL awpQ awpM pWalk Qt AC thenQ blockQ loopQ OpTo
set_option linter.unusedVariables false
set_option linter.unusedSimpArgs false
set_option maxHeartbeats 2000000
attribute [local irreducible] HC

/-- The depth of a set within d rounds. -/
def dN (nx : List (List Int)) (lp : List Int) (d f : Nat) : Int := dv sm (bel nx lp) nx.length 4 d f
/-- One round more finds nothing more among these. -/
def still (nx : List (List Int)) (lp : List Int) (l : List Nat) (d : Nat) : Prop := ∀ f ∈ l, dN nx lp (d + 1) f = dN nx lp d f

theorem first_ex {P : Nat → Prop} : ∀ k, P k → ∃ D, D ≤ k ∧ P D ∧ ∀ d, d < D → ¬ P d := fun k => by
  induction k using Nat.strongRecOn with
  | _ k ih =>
    intro h
    by_cases he : ∃ d, d < k ∧ P d
    · obtain ⟨d, hd, hp⟩ := he
      obtain ⟨D, h1, h2⟩ := ih d hd hp
      exact ⟨D, by omega, h2⟩
    · exact ⟨k, Nat.le_refl _, h, fun d hd hp => he ⟨d, hd, hp⟩⟩

theorem still_no {nx : List (List Int)} {lp : List Int} {l : List Nat} {d : Nat} (h : ¬ still nx lp l d) : ∃ f ∈ l, dN nx lp d f < 0 ∧ 0 ≤ dN nx lp (d + 1) f := by
  by_cases he : ∃ f ∈ l, dN nx lp d f < 0 ∧ 0 ≤ dN nx lp (d + 1) f
  · exact he
  · exact absurd (dv_same1 he) h

theorem still_ex (nx : List (List Int)) (lp : List Int) (l : List Nat) : ∃ D, D ≤ l.length ∧ still nx lp l D ∧ ∀ d, d < D → ¬ still nx lp l d := by
  have key : ∃ k, k ≤ l.length ∧ still nx lp l k := by
    by_cases he : ∃ k, k ≤ l.length ∧ still nx lp l k
    · exact he
    · have hu : ∀ k, k ≤ l.length + 1 → unk sm (bel nx lp) nx.length 4 l k + k ≤ l.length := fun k => by
        induction k with
        | zero => exact fun _ => unk_len
        | succ k ih =>
          intro hk
          have h1 := ih (by omega)
          have h2 := unk_lt (still_no (nx := nx) (lp := lp) (l := l) (d := k) fun h => he ⟨k, by omega, h⟩)
          omega
      have := hu (l.length + 1) (Nat.le_refl _)
      omega
  obtain ⟨k, hk, hs⟩ := key
  obtain ⟨D, h1, h2, h3⟩ := first_ex k hs
  exact ⟨D, by omega, h2, h3⟩

theorem dN_range {nx : List (List Int)} {lp : List Int} {d f : Nat} : dN nx lp d f = -1 ∨ (0 ≤ dN nx lp d f ∧ dN nx lp d f ≤ d) := dv_range d f
theorem new_iff {nx : List (List Int)} {lp : List Int} {d f : Nat} (h : dN nx lp d f < 0) : 0 ≤ dN nx lp (d + 1) f ↔ ∃ x, x < nx.length ∧ good sm (bel nx lp) nx.length 4 d f x = true := by
  have : dN nx lp (d + 1) f = if ∃ x, x < nx.length ∧ good sm (bel nx lp) nx.length 4 d f x = true then ((d + 1 : Nat) : Int) else -1 := by
    show dv _ _ _ _ _ _ = _
    rw [dv_succ, if_neg (by show ¬ 0 ≤ dN nx lp d f; omega)]
  rw [this]
  by_cases he : ∃ x, x < nx.length ∧ good sm (bel nx lp) nx.length 4 d f x = true
  · rw [if_pos he]; exact ⟨fun _ => he, fun _ => by omega⟩
  · rw [if_neg he]; exact ⟨fun h => by omega, fun h => absurd h he⟩
theorem new_val {nx : List (List Int)} {lp : List Int} {d f : Nat} (h : dN nx lp d f < 0) (h2 : 0 ≤ dN nx lp (d + 1) f) : dN nx lp (d + 1) f = ((d + 1 : Nat) : Int) := by
  have he := (new_iff h).1 h2
  show dv _ _ _ _ _ _ = _
  rw [dv_succ, if_neg (by show ¬ 0 ≤ dN nx lp d f; omega), if_pos he]
theorem old_val {nx : List (List Int)} {lp : List Int} {d f : Nat} (h : ¬ (dN nx lp d f < 0 ∧ 0 ≤ dN nx lp (d + 1) f)) : dN nx lp (d + 1) f = dN nx lp d f := by
  rcases dN_range (nx := nx) (lp := lp) (d := d) (f := f) with h1 | h1
  · rcases dN_range (nx := nx) (lp := lp) (d := d + 1) (f := f) with h2 | h2
    · omega
    · exact absurd ⟨by omega, h2.1⟩ h
  · exact dv_pos_up h1.1 (by omega)
theorem wors_iff {nx : List (List Int)} {lp : List Int} {d f x : Nat} : 0 ≤ wors (fun y => dN nx lp d (bel nx lp f x y)) 4 ↔ good sm (bel nx lp) nx.length 4 d f x = true := by
  rw [good_iff]
  unfold wors
  split
  · rename_i h; exact ⟨fun _ => h, fun _ => wst_range⟩
  · rename_i h; exact ⟨fun h => by omega, fun h' => absurd h' h⟩

/-- The sets that a round finds. -/
def fnd (nx : List (List Int)) (lp : List Int) (d k : Nat) : List Nat := (List.range k).filter fun g => decide (dN nx lp d g < 0) && decide (0 ≤ dN nx lp (d + 1) g)
theorem fnd_succ {nx : List (List Int)} {lp : List Int} {d k : Nat} : fnd nx lp d (k + 1) = fnd nx lp d k ++ if dN nx lp d k < 0 ∧ 0 ≤ dN nx lp (d + 1) k then [k] else [] := by
  unfold fnd
  rw [List.range_succ, List.filter_append]
  congr 1
  by_cases h : dN nx lp d k < 0 ∧ 0 ≤ dN nx lp (d + 1) k
  · rw [if_pos h]; simp [h.1, h.2]
  · rw [if_neg h]
    have : (decide (dN nx lp d k < 0) && decide (0 ≤ dN nx lp (d + 1) k)) = false := by
      cases e : (decide (dN nx lp d k < 0) && decide (0 ≤ dN nx lp (d + 1) k)) with
      | false => rfl
      | true => simp only [Bool.and_eq_true, decide_eq_true_eq] at e; exact absurd e h
    simp [this]
theorem mem_fnd {nx : List (List Int)} {lp : List Int} {d k g : Nat} : g ∈ fnd nx lp d k ↔ g < k ∧ dN nx lp d g < 0 ∧ 0 ≤ dN nx lp (d + 1) g := by
  unfold fnd
  rw [List.mem_filter, List.mem_range]
  simp
theorem fnd_len {nx : List (List Int)} {lp : List Int} {d k : Nat} : (fnd nx lp d k).length ≤ k := by
  have := List.length_filter_le (fun g => decide (dN nx lp d g < 0) && decide (0 ≤ dN nx lp (d + 1) g)) (List.range k)
  rwa [List.length_range] at this

theorem spec_l08Depths {s : Int} {nx : List (List Int)} {lp : List Int} (v : LV s nx lp) {Z : Nat} (hst : still nx lp (List.range (2 ^ s.toNat)) Z) (hmin : ∀ d, d < Z → ¬ still nx lp (List.range (2 ^ s.toNat)) d) (hD : Z ≤ 2 ^ s.toNat) :
    AC Try.prog 36 [.ptr (.agg [.int .i64 s, rows nx, ints lp])] (ints (fnL (2 ^ s.toNat) (dN nx lp Z))) := by
  have hs := v.s1
  have hn := v.n1
  have hp := pow_le (m := s.toNat) (by omega)
  have htw : two s = ((2 ^ s.toNat : Nat) : Int) := rfl
  have ht2 : 0 ≤ two s ∧ two s ≤ 1024 := by rw [htw]; omega
  have hlen : ∀ F, ((fnL (2 ^ s.toNat) F).map (D.int .i64)).length = 2 ^ s.toNat := fun F => by simp [fnL]
  have hle : (List.map ints nx).length = nx.length := by simp
  have hN : ∀ F : Nat → Int, (fnL (two s).toNat F) = fnL (2 ^ s.toNat) F := fun F => by rw [htw, Int.toNat_natCast]
  generalize hNN : 2 ^ s.toNat = N at *
  refine ac_intro tabIs _ Try.func36 rfl rfl Try.ntmps36 rfl rfl fun w0 ok0 => ?_
  repeat (first | refine zc ?_ | ((first | apply x_l | apply x_q | apply x_lr | apply x_qr); (focus (first | (apply qi_conv; (iterate 5 (focus (first | exact rfl | (first | assumption | omega | (simp; omega) | (simp; done) | rfl))))) | (apply qi_one; (iterate 2 (focus (first | exact rfl | (first | assumption | omega | (simp; omega) | (simp; done) | rfl))))))); exact rfl) | (apply v_x; (iterate 2 exact rfl); (focus (intro ok0 nw hle; (first | (apply qi_conv; (iterate 5 (focus (first | exact rfl | (first | assumption | omega | (simp; omega) | (simp; done) | rfl))))) | (apply qi_one; (iterate 2 (focus (first | exact rfl | (first | assumption | omega | (simp; omega) | (simp; done) | rfl)))))))); (iterate 2 exact rfl)) | refine zv ?_)
  refine awp_loop (fun k : Nat => k ≤ N) (fun k => [(0, .d (.ptr (.agg [.int .i64 s, rows nx, ints lp]))), (3, .own 17), (4, .d (.int .i64 k))]) (fun k => [(17, .arr 2 1 ((fnL N fun g => if g < k then dN nx lp 0 g else 0).map (.int .i64)))]) (fun k => N - k) 0 (by omega) ?_ ?_ ?_
  · exact zs
  · have : (two s).toNat = N := by rw [htw, Int.toNat_natCast]
    simp only [this, Nat.not_lt_zero, if_false]
    have h0 : (fnL N fun _ => 0).map (D.int .i64) = List.replicate N (.int .i64 0) := by
      unfold fnL
      rw [List.map_map]
      exact List.eq_replicate_iff.2 ⟨by simp, fun b hb => by simp at hb; exact hb.2.symm⟩
    rw [h0]
    rfl
  · intro k hk
    have hl := hlen fun g => if g < k then dN nx lp 0 g else 0
    by_cases hlt : k < N
    · have e1 := spec_l02Single (f := k) (by omega)
      have hd0 : dN nx lp 0 k = if sm k then 0 else -1 := rfl
      cases hk0 : sm k
      · rw [hk0] at e1 hd0
        have hst1 := fnL_set (N := N) (k := k) (F := fun g => if g < k then dN nx lp 0 g else 0) (v := -1)
        have hcg := fnL_congr (N := N) (F := fun g => if g = k then -1 else if g < k then dN nx lp 0 g else 0) (G := fun g => if g < k + 1 then dN nx lp 0 g else 0) fun g _ => by
          by_cases h1 : g = k
          · subst h1; simp [hd0]
          · by_cases h2 : g < k
            · simp [h1, h2, show g < k + 1 by omega]
            · simp [h1, h2, show ¬ g < k + 1 by omega]
        rw [hcg] at hst1
        repeat (first | refine zc ?_ | ((first | apply c_l | apply c_q | apply c_lr | apply c_qr); (iterate 2 exact rfl); (focus (first | exact e1)); (iterate 2 exact rfl)) | (apply v_c; (iterate 4 exact rfl); (focus (first | exact e1)); (iterate 2 exact rfl)) | refine zv ?_)
        refine loop_n (k + 1) (by omega) ?_ ?_ (by omega)
        · exact zs
        · rw [← hst1]; rfl
      · rw [hk0] at e1 hd0
        have hcg := fnL_congr (N := N) (F := fun g => if g < k then dN nx lp 0 g else 0) (G := fun g => if g < k + 1 then dN nx lp 0 g else 0) fun g _ => by
          by_cases h1 : g = k
          · subst h1; simp [hd0]
          · by_cases h2 : g < k
            · simp [h2, show g < k + 1 by omega]
            · simp [h2, show ¬ g < k + 1 by omega]
        repeat (first | refine zc ?_ | ((first | apply c_l | apply c_q | apply c_lr | apply c_qr); (iterate 2 exact rfl); (focus (first | exact e1)); (iterate 2 exact rfl)) | (apply v_c; (iterate 4 exact rfl); (focus (first | exact e1)); (iterate 2 exact rfl)) | refine zv ?_)
        refine loop_n (k + 1) (by omega) ?_ ?_ (by omega)
        · exact zs
        · rw [hcg]
    · have : k = N := by omega
      subst this
      have hcg := fnL_congr (N := k) (F := fun g => if g < k then dN nx lp 0 g else 0) (G := fun g => dN nx lp 0 g) fun g hg => if_pos hg
      rw [hcg]
      have hl0 := hlen fun g => dN nx lp 0 g
      repeat (first | refine zc ?_ | refine zv ?_)
      refine awp_loop (fun d : Nat => d ≤ Z) (fun d => [(0, .d (.ptr (.agg [.int .i64 s, rows nx, ints lp]))), (3, .own 17), (5, .d (.int .i64 ((d + 1 : Nat) : Int)))]) (fun d => [(17, .arr 2 1 ((fnL k fun g => dN nx lp d g).map (.int .i64)))]) (fun d => Z + 1 - d) 0 (by omega) ?_ rfl ?_
      · exact zs
      · intro d hd
        have hl := hlen fun g => dN nx lp d g
        repeat (first | refine v_w (t := 32) ?_ | refine zc ?_ | refine u_w (t := 32) ?_ | refine zv ?_)
        refine awp_loop (fun j : Nat => j ≤ k) (fun j => [(0, .d (.ptr (.agg [.int .i64 s, rows nx, ints lp]))), (3, .own 17), (5, .d (.int .i64 ((d + 1 : Nat) : Int))), (6, .own 32), (7, .d (.int .i64 j))]) (fun j => [(32, .arr 3 1 ((fnd nx lp d j).map fun g : Nat => D.int .i64 g)), (17, .arr 2 1 ((fnL k fun g => dN nx lp d g).map (.int .i64)))]) (fun j => k - j) 0 (by omega) ?_ rfl ?_
        · exact zs
        · intro j hj
          have hfl := fnd_len (nx := nx) (lp := lp) (d := d) (k := j)
          by_cases hjl : j < k
          · have hel := fnL_el (F := fun g => dN nx lp d g) hjl
            have hfs := fnd_succ (nx := nx) (lp := lp) (d := d) (k := j)
            repeat (first | refine zc ?_ | refine zv ?_)
            refine awp_loop (fun x : Nat => x ≤ nx.length ∧ (dN nx lp d j < 0 ∨ x = 0) ∧ ∀ x', x' < x → ¬ good sm (bel nx lp) nx.length 4 d j x' = true) (fun x => [(0, .d (.ptr (.agg [.int .i64 s, rows nx, ints lp]))), (3, .own 17), (5, .d (.int .i64 ((d + 1 : Nat) : Int))), (6, .own 32), (7, .d (.int .i64 j)), (8, .d (.int .i64 x))]) (fun x => [(32, .arr 3 1 ((fnd nx lp d j).map fun g : Nat => D.int .i64 g)), (17, .arr 2 1 ((fnL k fun g => dN nx lp d g).map (.int .i64)))]) (fun x => nx.length - x) 0 (by exact ⟨by omega, .inr rfl, fun x h => by omega⟩) ?_ rfl ?_
            · exact zs
            · rintro x ⟨hx, hz, hg⟩
              by_cases hxl : x < nx.length
              · by_cases hneg : dN nx lp d j < 0
                · have e2 := spec_l08Worst (G := fun g => dN nx lp d g) v (f := j) (x := x) (by omega) hxl
                  have hwi := wors_iff (nx := nx) (lp := lp) (d := d) (f := j) (x := x)
                  rw [hNN] at e2
                  by_cases hgd : good sm (bel nx lp) nx.length 4 d j x = true
                  · have hw := hwi.2 hgd
                    rw [if_pos ⟨hneg, (new_iff hneg).2 ⟨x, hxl, hgd⟩⟩] at hfs
                    repeat (first | refine zc ?_ | refine zv ?_)
                    refine u_sl ?_ ?_
                    rotate_left
                    · intro hb; exact absurd hb (by simp; omega)
                    intro _
                    repeat (first | refine zc ?_ | ((first | apply c_l | apply c_q | apply c_lr | apply c_qr); (iterate 2 exact rfl); (focus (first | exact e2)); (iterate 2 exact rfl)) | (apply v_c; (iterate 4 exact rfl); (focus (first | exact e2)); (iterate 2 exact rfl)) | refine zv ?_)
                    refine loop_n (j + 1) (by omega) ?_ ?_ (by omega)
                    · exact zs
                    · rw [hfs]; simp [killH, keepH, memB, Chunk.mapc]
                  · have hw : ¬ 0 ≤ wors (fun y => dN nx lp d (bel nx lp j x y)) 4 := fun h => hgd (hwi.1 h)
                    repeat (first | refine zc ?_ | refine zv ?_)
                    refine u_sl ?_ ?_
                    rotate_left
                    · intro hb; exact absurd hb (by simp; omega)
                    intro _
                    repeat (first | refine zc ?_ | ((first | apply c_l | apply c_q | apply c_lr | apply c_qr); (iterate 2 exact rfl); (focus (first | exact e2)); (iterate 2 exact rfl)) | (apply v_c; (iterate 4 exact rfl); (focus (first | exact e2)); (iterate 2 exact rfl)) | refine zv ?_)
                    refine loop_n (x + 1) ⟨by omega, .inl hneg, fun x' hx' => ?_⟩ ?_ rfl (by omega)
                    · by_cases e : x' = x
                      · subst e; exact hgd
                      · exact hg x' (by omega)
                    · exact zs
                · rw [if_neg (by omega)] at hfs
                  repeat (first | refine zc ?_ | refine zv ?_)
                  refine u_sl ?_ ?_
                  rotate_left
                  · intro hb; exact absurd hb (by simp; omega)
                  intro _
                  repeat (first | refine zc ?_ | refine zv ?_)
                  refine loop_n (j + 1) (by omega) ?_ ?_ (by omega)
                  · exact zs
                  · rw [hfs]; simp
              · have : x = nx.length := by omega
                subst this
                have hno : ¬ (dN nx lp d j < 0 ∧ 0 ≤ dN nx lp (d + 1) j) := fun ⟨h1, h2⟩ => by
                  obtain ⟨x', h3, h4⟩ := (new_iff h1).1 h2
                  exact hg x' h3 h4
                rw [if_neg hno] at hfs
                repeat (first | refine zc ?_ | refine zv ?_)
                refine u_sl ?_ ?_
                · intro hb; exact absurd hb (by simp)
                intro _
                repeat (first | refine zc ?_ | refine zv ?_)
                refine loop_n (j + 1) (by omega) ?_ ?_ (by omega)
                · exact zs
                · rw [hfs]; simp
          · have hjk : j = k := by omega
            subst hjk
            have hmf : ∀ g, g ∈ fnd nx lp d j ↔ g < j ∧ dN nx lp d g < 0 ∧ 0 ≤ dN nx lp (d + 1) g := fun g => mem_fnd
            have hfe : fnd nx lp d j = [] ↔ still nx lp (List.range j) d := by
              constructor
              · intro he f hf
                refine old_val fun h => ?_
                have := (hmf f).2 ⟨List.mem_range.1 hf, h⟩
                rw [he] at this
                cases this
              · intro hs'
                refine List.eq_nil_iff_forall_not_mem.2 fun g hg => ?_
                obtain ⟨h1, h2, h3⟩ := (hmf g).1 hg
                have := hs' g (List.mem_range.2 h1)
                omega
            generalize fnd nx lp d j = fo at *
            have hfm : (fo.map fun g : Nat => D.int .i64 g).length = fo.length := by simp
            have hf0 : (fnL j fun g => dN nx lp d g) = fnL j fun g => if g ∈ fo.take 0 then ((d + 1 : Nat) : Int) else dN nx lp d g := fnL_congr fun g _ => by simp
            rw [hf0]
            repeat (first | refine zc ?_ | refine zv ?_)
            refine awp_loop (fun i : Nat => i ≤ fo.length) (fun i => [(0, .d (.ptr (.agg [.int .i64 s, rows nx, ints lp]))), (3, .own 17), (5, .d (.int .i64 ((d + 1 : Nat) : Int))), (6, .own 32), (9, .d (.int .i64 i))]) (fun i => [(32, .arr 3 1 (fo.map fun g : Nat => D.int .i64 g)), (17, .arr 2 1 ((fnL j fun g => if g ∈ fo.take i then ((d + 1 : Nat) : Int) else dN nx lp d g).map (.int .i64)))]) (fun i => fo.length - i) 0 (by omega) ?_ rfl ?_
            · exact zs
            · intro i hi
              have hl3 := hlen fun g => if g ∈ fo.take i then ((d + 1 : Nat) : Int) else dN nx lp d g
              by_cases hil : i < fo.length
              · have hfi : (fo.map fun g : Nat => D.int .i64 g)[(i : Int).toNat]? = some (.int .i64 ((fo[i] : Nat) : Int)) := by simp [hil]
                have hfm := (hmf fo[i]).1 (List.getElem_mem hil)
                have hst1 := fnL_set (N := j) (k := fo[i]) (F := fun g => if g ∈ fo.take i then ((d + 1 : Nat) : Int) else dN nx lp d g) (v := ((d + 1 : Nat) : Int))
                have hcg := fnL_congr (N := j) (F := fun g => if g = fo[i] then ((d + 1 : Nat) : Int) else if g ∈ fo.take i then ((d + 1 : Nat) : Int) else dN nx lp d g) (G := fun g => if g ∈ fo.take (i + 1) then ((d + 1 : Nat) : Int) else dN nx lp d g) fun g _ => by
                  have hm : g ∈ fo.take (i + 1) ↔ g ∈ fo.take i ∨ g = fo[i] := by rw [List.take_succ_eq_append_getElem hil, List.mem_append, List.mem_singleton]
                  by_cases h1 : g = fo[i]
                  · rw [if_pos h1, if_pos (hm.2 (.inr h1))]
                  · rw [if_neg h1]
                    by_cases h2 : g ∈ fo.take i
                    · rw [if_pos h2, if_pos (hm.2 (.inl h2))]
                    · rw [if_neg h2, if_neg fun h => (hm.1 h).elim h2 h1]
                rw [hcg] at hst1
                repeat (first | refine zc ?_ | refine zv ?_)
                refine loop_n (i + 1) (by omega) ?_ ?_ (by omega)
                · exact zs
                · rw [← hst1]; rfl
              · have hii : i = fo.length := by omega
                subst hii
                rw [List.take_length] at *
                have hcg := fnL_congr (N := j) (F := fun g => if g ∈ fo then ((d + 1 : Nat) : Int) else dN nx lp d g) (G := fun g => dN nx lp (d + 1) g) fun g hg => by
                  by_cases h1 : g ∈ fo
                  · have := (hmf g).1 h1
                    rw [if_pos h1, new_val this.2.1 this.2.2]
                  · rw [if_neg h1, old_val fun h => h1 ((hmf g).2 ⟨hg, h⟩)]
                rw [hcg]
                by_cases hf : fo = []
                · have hdD : d = Z := by
                    by_cases h : d < Z
                    · exact absurd (hfe.1 hf) (hmin d h)
                    · omega
                  subst hdD
                  have hcg2 := fnL_congr (N := j) (F := fun g => dN nx lp (d + 1) g) (G := dN nx lp d) fun g hg => hfe.1 hf g (List.mem_range.2 hg)
                  rw [hcg2]
                  subst hf
                  repeat (first | refine zc ?_ | refine zv ?_)
                  (refine awp_ret ?_; (repeat (first | refine then_r ?_ | refine block_r ?_ | refine loop_r ?_)); apply ret_ok (.inr rfl); (focus exact rfl))
                  rfl
                · have hdD : d < Z := by
                    rcases Nat.lt_or_ge d Z with h | h
                    · exact h
                    · have : d = Z := by omega
                      subst this
                      exact absurd (hfe.2 hst) hf
                  have hpos : 0 < fo.length := List.length_pos_iff.2 hf
                  refine awp_freeze 32 rfl rfl ?_
                  repeat (first | refine zc ?_ | refine zv ?_)
                  refine loop_n (d + 1) (by omega) ?_ rfl (by omega)
                  exact zs

end Go.Proofs.Ytampglcgipefnaa
