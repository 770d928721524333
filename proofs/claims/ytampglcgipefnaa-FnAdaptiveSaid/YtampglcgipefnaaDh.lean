/- Depths of sets: AdaptiveDepth and AdaptiveLetter, in the reference and in the program, and their laws. No condition. -/
import Derived.Test.YtampglcgipefnaaDe
import Derived.Test.YtampglcgipefnaaSf
namespace Go.Proofs.Ytampglcgipefnaa
open Go
attribute [local irreducible] awp awpL awpQL awpQ awpM pWalk Qt AC thenQ blockQ loopQ OpTo
set_option linter.unusedVariables false
set_option linter.unusedSimpArgs false
set_option maxHeartbeats 2000000
attribute [local irreducible] HC

/-- The depth of a set. -/
noncomputable def dep (s : Int) (nx : List (List Int)) (lp : List Int) (f : Nat) : Int := dN nx lp (Classical.choose (still_ex nx lp (List.range (2 ^ s.toNat)))) f

theorem dep_range {s : Int} {nx : List (List Int)} {lp : List Int} {f : Nat} : dep s nx lp f = -1 ∨ (0 ≤ dep s nx lp f ∧ dep s nx lp f ≤ ((2 ^ s.toNat : Nat) : Int)) := by
  have h := Nat.le_trans (Classical.choose_spec (still_ex nx lp (List.range (2 ^ s.toNat)))).1 (Nat.le_of_eq List.length_range)
  unfold dep
  generalize Classical.choose (still_ex nx lp (List.range (2 ^ s.toNat))) = c at h ⊢
  rcases dN_range (nx := nx) (lp := lp) (d := c) (f := f) with h1 | h1
  · exact .inl h1
  · exact .inr ⟨h1.1, by omega⟩
theorem spec_depths {s : Int} {nx : List (List Int)} {lp : List Int} (v : LV s nx lp) : AC Try.prog 36 [.ptr (.agg [.int .i64 s, rows nx, ints lp])] (ints (fnL (2 ^ s.toNat) (dep s nx lp))) := by
  obtain ⟨h1, h2, h3⟩ := Classical.choose_spec (still_ex nx lp (List.range (2 ^ s.toNat)))
  exact spec_l08Depths v h2 h3 (Nat.le_trans h1 (Nat.le_of_eq List.length_range))
/-- Any count of rounds that is the last gives the depth. -/
theorem dep_same {s : Int} {nx : List (List Int)} {lp : List Int} (v : LV s nx lp) {l : List Nat} (hlt : ∀ f ∈ l, f < 2 ^ s.toNat) (hcl : ∀ f ∈ l, ∀ x y, x < nx.length → y < 4 → bel nx lp f x y ∈ l) {Z : Nat} (hst : still nx lp l Z) {f : Nat} (hf : f ∈ l) : dN nx lp Z f = dep s nx lp f := by
  have h2 := (Classical.choose_spec (still_ex nx lp (List.range (2 ^ s.toNat)))).2.1
  exact dv_same (S := (· ∈ l)) (S' := (· < 2 ^ s.toNat)) (fun f x y h hx hy => hcl f h x y hx hy) (fun f x y h hx hy => bel_lt v h hx) hst (fun g hg => h2 g (List.mem_range.2 hg)) hf (hlt f hf)

/-- The first letter with which a set has its depth. -/
noncomputable def ltr (s : Int) (nx : List (List Int)) (lp : List Int) (f : Nat) : Int := fstL (fun x => fitB (dep s nx lp) (dep s nx lp f) (bel nx lp f x) 4) nx.length (-1)

theorem fitB_iff {G : Nat → Int} {dp : Int} {b : Nat → Nat} {k : Nat} : fitB G dp b k = true ↔ ∀ y, y < k → 0 ≤ G (b y) ∧ G (b y) < dp := by
  unfold fitB
  rw [List.all_eq_true]
  constructor
  · intro h y hy
    have := h y (List.mem_range.2 hy)
    simpa using this
  · intro h y hy
    have := h y (List.mem_range.1 hy)
    simpa using this

theorem ltr_spec {s : Int} {nx : List (List Int)} {lp : List Int} {f : Nat} (h : 0 < dep s nx lp f) : (∃ x : Nat, ltr s nx lp f = x ∧ x < nx.length ∧ fitB (dep s nx lp) (dep s nx lp f) (bel nx lp f x) 4 = true) ∧ fstL (fun x => decide (wors (fun y => dep s nx lp (bel nx lp f x y)) 4 = dep s nx lp f - 1)) nx.length 0 = ltr s nx lp f := by
  obtain ⟨d, hd⟩ : ∃ d : Nat, dep s nx lp f = ((d + 1 : Nat) : Int) := ⟨(dep s nx lp f).toNat - 1, by omega⟩
  have hdd : dv sm (bel nx lp) nx.length 4 (Classical.choose (still_ex nx lp (List.range (2 ^ s.toNat)))) f = ((d + 1 : Nat) : Int) := hd
  obtain ⟨⟨x, hx, hg⟩, hlt, hno⟩ := dv_letter hdd (by omega)
  have he : ∃ x, x < nx.length ∧ fitB (dep s nx lp) (dep s nx lp f) (bel nx lp f x) 4 = true := ⟨x, hx, fitB_iff.2 fun y hy => by
    have h1 := (dv_le (sm := sm) (bel := bel nx lp) (n := nx.length) (L := 4) (g := bel nx lp f x y) (Nat.le_of_lt hlt)).1 (good_iff.1 hg y hy)
    rw [hd]
    exact ⟨h1.1, by have : dep s nx lp (bel nx lp f x y) ≤ d := h1.2
                    omega⟩⟩
  refine ⟨fstL_mem he, ?_⟩
  refine (fstL_congr (fun x hx => ?_) he).symm
  have hno' := hno x hx
  rw [Bool.eq_iff_iff, fitB_iff, decide_eq_true_eq, hd]
  unfold wors
  constructor
  · intro h
    rw [if_pos fun y hy => (h y hy).1]
    have h1 : wst (fun y => dep s nx lp (bel nx lp f x y)) 4 < ((d + 1 : Nat) : Int) := wst_lt.2 fun y hy => (h y hy).2
    have h2 : ¬ wst (fun y => dep s nx lp (bel nx lp f x y)) 4 < (d : Int) := fun hc => by
      match d, hc, hno', h with
      | 0, hc, _, _ => have := wst_range (g := fun y => dep s nx lp (bel nx lp f x y)) (k := 4); omega
      | e + 1, hc, hno', h => exact hno' fun y hy => ⟨(h y hy).1, wst_lt.1 hc y hy⟩
    omega
  · intro h
    split at h
    · rename_i hall
      have h1 : wst (fun y => dep s nx lp (bel nx lp f x y)) 4 < ((d + 1 : Nat) : Int) := by omega
      exact fun y hy => ⟨hall y hy, wst_lt.1 h1 y hy⟩
    · omega

theorem impl_adaptive {s : Int} {nx : List (List Int)} {lp : List Int} (v : LV s nx lp) {f : Nat} (hf : f < 2 ^ s.toNat) :
    AC Try.prog 39 [.agg [.int .i64 s, rows nx, ints lp], .int .u64 f] (.tup [.int .i64 (if 0 ≤ dep s nx lp f then dep s nx lp f else 0), .int .i64 (if 0 ≤ dep s nx lp f then ltr s nx lp f else 0), .bool (decide (0 ≤ dep s nx lp f))]) := by
  have hn := v.n1
  have hbl : ∀ f x y : Nat, f < 2 ^ s.toNat → x < nx.length → y < 4 → bel nx lp f x y < 2 ^ s.toNat := fun f x y h1 h2 _ => bel_lt v h1 h2
  obtain ⟨I, h1, h2, h3, h4⟩ := clo_ex hf hbl
  obtain ⟨Z, z1, z2, z3⟩ := still_ex nx lp (cloI (bel nx lp) nx.length f I)
  have e1 := impl_depths v hf rfl h1 h2 (fun i => cloI_ok hf hbl i) h4 z2 z3 z1
  have hfm := h3.fr
  have hget : ∀ g ∈ cloI (bel nx lp) nx.length f I, mget (g : Int) (KV nx lp (cloI (bel nx lp) nx.length f I) (Z + 2)) = optD (dep s nx lp g) := fun g hg => by
    rw [KV_get (Z + 2) g hg, ← dep_same v h3.lt h4 z2 hg]
    show optD (dN nx lp (Z + 1) g) = _
    rw [z2 g hg]
  have hk := KV_keys (nx := nx) (lp := lp) (l := cloI (bel nx lp) nx.length f I) (Z + 2)
  have hf1 := hget f hfm
  have hlet := impl_letter (G := dep s nx lp) (dp := dep s nx lp f) v hf hk fun x y hx hy => hget _ (h4 f hfm x y hx hy)
  unfold ltr
  generalize KV nx lp (cloI (bel nx lp) nx.length f I) (Z + 2) = kvs at *
  by_cases h0 : 0 ≤ dep s nx lp f
  · have hg : MGet (f : Int) kvs (some (.int .i64 (dep s nx lp f))) := ⟨by rw [hf1]; exact if_pos h0⟩
    rw [if_pos h0, if_pos h0, decide_eq_true h0]
    refine ac_intro tabIs _ Try.func39 rfl rfl Try.ntmps39 rfl rfl fun w0 ok0 => ?_
    repeat (first | refine zc ?_ | ((first | apply x_l | apply x_q | apply x_lr | apply x_qr); (focus (first | (apply wa_got; (iterate 11 (focus (first | exact rfl | (first | assumption | omega | (simp; omega) | (simp; done) | rfl))))))); exact rfl) | ((first | apply c_l | apply c_q | apply c_lr | apply c_qr); (iterate 2 exact rfl); (focus (first | exact e1 | exact hlet)); (iterate 2 exact rfl)) | (apply v_x; (iterate 2 exact rfl); (focus (intro ok0 nw hle; (first | (apply wa_got; (iterate 11 (focus (first | exact rfl | (first | assumption | omega | (simp; omega) | (simp; done) | rfl)))))))); (iterate 2 exact rfl)) | (apply v_c; (iterate 4 exact rfl); (focus (first | exact e1 | exact hlet)); (iterate 2 exact rfl)) | refine zv ?_)
    (refine awp_ret ?_; (repeat (first | refine then_r ?_ | refine block_r ?_ | refine loop_r ?_)); apply ret_ok (.inr rfl); (focus exact rfl))
    rfl
  · have hg : MGet (f : Int) kvs none := ⟨by rw [hf1]; exact if_neg h0⟩
    rw [if_neg h0, if_neg h0, decide_eq_false h0]
    refine ac_intro tabIs _ Try.func39 rfl rfl Try.ntmps39 rfl rfl fun w0 ok0 => ?_
    repeat (first | refine zc ?_ | ((first | apply x_l | apply x_q | apply x_lr | apply x_qr); (focus (first | (apply wa_got; (iterate 11 (focus (first | exact rfl | (first | assumption | omega | (simp; omega) | (simp; done) | rfl))))))); exact rfl) | ((first | apply c_l | apply c_q | apply c_lr | apply c_qr); (iterate 2 exact rfl); (focus (first | exact e1 | exact hlet)); (iterate 2 exact rfl)) | (apply v_x; (iterate 2 exact rfl); (focus (intro ok0 nw hle; (first | (apply wa_got; (iterate 11 (focus (first | exact rfl | (first | assumption | omega | (simp; omega) | (simp; done) | rfl)))))))); (iterate 2 exact rfl)) | (apply v_c; (iterate 4 exact rfl); (focus (first | exact e1 | exact hlet)); (iterate 2 exact rfl)) | refine zv ?_)
    (refine awp_ret ?_; (repeat (first | refine then_r ?_ | refine block_r ?_ | refine loop_r ?_)); apply ret_ok (.inr rfl); (focus exact rfl))
    rfl

/-- The code of a lit automaton and of a set. -/
def adC (s : Int) (nx : List (List Int)) (lp l : List Int) : Int := if litOk s nx lp then if risB l (s - 1) then 0 else 2 else 1
theorem impl_adaptiveCode {s : Int} {nx : List (List Int)} {lp l : List Int} (h : RowsOk nx) (h2 : lp.length ≤ 9223372036854775807) (h3 : l.length ≤ 9223372036854775807) :
    AC Try.prog 38 [.agg [.int .i64 s, rows nx, ints lp], ints l] (.int .i64 (adC s nx lp l)) := by
  have e1 := impl_ValidLit (s := s) (nx := nx) (lp := lp) h h2
  unfold adC
  cases hv : litOk s nx lp
  · rw [hv] at e1
    refine ac_intro tabIs _ Try.func38 rfl rfl Try.ntmps38 rfl rfl fun w0 ok0 => ?_
    repeat (first | refine zc ?_ | ((first | apply c_l | apply c_q | apply c_lr | apply c_qr); (iterate 2 exact rfl); (focus (first | exact e1)); (iterate 2 exact rfl)) | (apply v_c; (iterate 4 exact rfl); (focus (first | exact e1)); (iterate 2 exact rfl)) | refine zv ?_)
    (refine awp_ret ?_; (repeat (first | refine then_r ?_ | refine block_r ?_ | refine loop_r ?_)); apply ret_ok (.inr rfl); (focus exact rfl))
    rfl
  · rw [hv] at e1
    have v := lv_of hv
    have hs := v.s1
    have e2 := impl_isSet (l := l) (b := s) (by omega) h3
    cases hr : risB l (s - 1)
    · rw [hr] at e2
      refine ac_intro tabIs _ Try.func38 rfl rfl Try.ntmps38 rfl rfl fun w0 ok0 => ?_
      repeat (first | refine zc ?_ | ((first | apply c_l | apply c_q | apply c_lr | apply c_qr); (iterate 2 exact rfl); (focus (first | exact e1 | exact e2)); (iterate 2 exact rfl)) | (apply v_c; (iterate 4 exact rfl); (focus (first | exact e1 | exact e2)); (iterate 2 exact rfl)) | refine zv ?_)
      (refine awp_ret ?_; (repeat (first | refine then_r ?_ | refine block_r ?_ | refine loop_r ?_)); apply ret_ok (.inr rfl); (focus exact rfl))
      rfl
    · rw [hr] at e2
      refine ac_intro tabIs _ Try.func38 rfl rfl Try.ntmps38 rfl rfl fun w0 ok0 => ?_
      repeat (first | refine zc ?_ | ((first | apply c_l | apply c_q | apply c_lr | apply c_qr); (iterate 2 exact rfl); (focus (first | exact e1 | exact e2)); (iterate 2 exact rfl)) | (apply v_c; (iterate 4 exact rfl); (focus (first | exact e1 | exact e2)); (iterate 2 exact rfl)) | refine zv ?_)
      (refine awp_ret ?_; (repeat (first | refine then_r ?_ | refine block_r ?_ | refine loop_r ?_)); apply ret_ok (.inr rfl); (focus exact rfl))
      rfl
theorem adC_facts {s : Int} {nx : List (List Int)} {lp l : List Int} (h : adC s nx lp l = 0) : LV s nx lp ∧ litOk s nx lp = true ∧ risB l (s - 1) = true ∧ (∀ q ∈ l, 0 ≤ q ∧ q < s) ∧ l.Pairwise (· < ·) ∧ bitsL 0 l < 2 ^ s.toNat ∧ l.length ≤ 10 := by
  unfold adC at h
  cases hv : litOk s nx lp
  · rw [hv] at h; simp at h
  · rw [hv] at h
    cases hr : risB l (s - 1)
    · rw [hr] at h; simp at h
    · have v := lv_of hv
      have hs := v.s1
      obtain ⟨h1, h2⟩ := ris_of hr
      have hm : ∀ q ∈ l, 0 ≤ q ∧ q < s := fun q hq => by have := h1 q hq; omega
      refine ⟨v, rfl, rfl, hm, h2, bits_lt l 0 (Nat.two_pow_pos _) fun q hq => by have := hm q hq; omega, ?_⟩
      have := incr_len h2 0 fun q hq => by have := hm q hq; omega
      omega
theorem adC_not {s : Int} {nx : List (List Int)} {lp l : List Int} (h : ¬ adC s nx lp l = 0) : (litOk s nx lp = false ∧ adC s nx lp l = 1) ∨ (litOk s nx lp = true ∧ risB l (s - 1) = false ∧ adC s nx lp l = 2) := by
  unfold adC at *
  cases hv : litOk s nx lp
  · exact .inl ⟨rfl, rfl⟩
  · cases hr : risB l (s - 1)
    · exact .inr ⟨rfl, rfl, rfl⟩
    · rw [hv, hr] at h; simp at h

/-- What AdaptiveDepth answers. -/
noncomputable def adD (s : Int) (nx : List (List Int)) (lp l : List Int) : Int × Int := if adC s nx lp l = 0 then if 0 ≤ dep s nx lp (bitsL 0 l) then (dep s nx lp (bitsL 0 l), 0) else (0, 6) else (0, adC s nx lp l)
/-- What AdaptiveLetter answers. -/
noncomputable def alD (s : Int) (nx : List (List Int)) (lp l : List Int) : Int × Int := if adC s nx lp l = 0 then if 0 ≤ dep s nx lp (bitsL 0 l) then if dep s nx lp (bitsL 0 l) = 0 then (0, 4) else (ltr s nx lp (bitsL 0 l), 0) else (0, 6) else (0, adC s nx lp l)

theorem spec_AdaptiveDepth {s : Int} {nx : List (List Int)} {lp l : List Int} (h : RowsOk nx) (h2 : lp.length ≤ 9223372036854775807) (h3 : l.length ≤ 9223372036854775807) :
    AC Try.prog 14 [.agg [.int .i64 s, rows nx, ints lp], ints l] (.tup [.int .i64 (adD s nx lp l).1, .int .i64 (adD s nx lp l).2]) := by
  have e1 := spec_l08Ok (s := s) (nx := nx) (lp := lp) h h2
  unfold adD
  by_cases hc : adC s nx lp l = 0
  · obtain ⟨v, hv, hr, hm, hp, hb, hl⟩ := adC_facts hc
    have hs := v.s1
    have e2 := spec_l01Set (s := s) (nx := nx) (l := l) hs h3
    rw [hv] at e1
    rw [hr] at e2
    rw [if_pos hc]
    have e3 := spec_depths v
    have e4 := spec_l02Bits (l := l) (fun q hq => by have := hm q hq; omega) h3
    have hel := fnL_el (F := dep s nx lp) hb
    have hdr := dep_range (s := s) (nx := nx) (lp := lp) (f := bitsL 0 l)
    generalize bitsL 0 l = f at *
    by_cases h0 : 0 ≤ dep s nx lp f
    · rw [if_pos h0]
      refine ac_intro tabIs _ Try.func14 rfl rfl Try.ntmps14 rfl rfl fun w0 ok0 => ?_
      repeat (first | refine zc ?_ | ((first | apply c_l | apply c_q | apply c_lr | apply c_qr); (iterate 2 exact rfl); (focus (first | exact e1 | exact e2 | exact e3 | exact e4)); (iterate 2 exact rfl)) | (apply v_c; (iterate 4 exact rfl); (focus (first | exact e1 | exact e2 | exact e3 | exact e4)); (iterate 2 exact rfl)) | refine zv ?_)
      (refine awp_ret ?_; (repeat (first | refine then_r ?_ | refine block_r ?_ | refine loop_r ?_)); apply ret_ok (.inr rfl); (focus exact rfl))
      rfl
    · rw [if_neg h0]
      refine ac_intro tabIs _ Try.func14 rfl rfl Try.ntmps14 rfl rfl fun w0 ok0 => ?_
      repeat (first | refine zc ?_ | ((first | apply c_l | apply c_q | apply c_lr | apply c_qr); (iterate 2 exact rfl); (focus (first | exact e1 | exact e2 | exact e3 | exact e4)); (iterate 2 exact rfl)) | (apply v_c; (iterate 4 exact rfl); (focus (first | exact e1 | exact e2 | exact e3 | exact e4)); (iterate 2 exact rfl)) | refine zv ?_)
      (refine awp_ret ?_; (repeat (first | refine then_r ?_ | refine block_r ?_ | refine loop_r ?_)); apply ret_ok (.inr rfl); (focus exact rfl))
      rfl
  · rw [if_neg hc]
    rcases adC_not hc with ⟨hv, ha⟩ | ⟨hv, hr, ha⟩
    · rw [ha]
      rw [hv] at e1
      refine ac_intro tabIs _ Try.func14 rfl rfl Try.ntmps14 rfl rfl fun w0 ok0 => ?_
      repeat (first | refine zc ?_ | ((first | apply c_l | apply c_q | apply c_lr | apply c_qr); (iterate 2 exact rfl); (focus (first | exact e1)); (iterate 2 exact rfl)) | (apply v_c; (iterate 4 exact rfl); (focus (first | exact e1)); (iterate 2 exact rfl)) | refine zv ?_)
      (refine awp_ret ?_; (repeat (first | refine then_r ?_ | refine block_r ?_ | refine loop_r ?_)); apply ret_ok (.inr rfl); (focus exact rfl))
      rfl
    · rw [ha]
      rw [hv] at e1
      have e2 := spec_l01Set (s := s) (nx := nx) (l := l) (lv_of hv).s1 h3
      rw [hr] at e2
      refine ac_intro tabIs _ Try.func14 rfl rfl Try.ntmps14 rfl rfl fun w0 ok0 => ?_
      repeat (first | refine zc ?_ | ((first | apply c_l | apply c_q | apply c_lr | apply c_qr); (iterate 2 exact rfl); (focus (first | exact e1 | exact e2)); (iterate 2 exact rfl)) | (apply v_c; (iterate 4 exact rfl); (focus (first | exact e1 | exact e2)); (iterate 2 exact rfl)) | refine zv ?_)
      (refine awp_ret ?_; (repeat (first | refine then_r ?_ | refine block_r ?_ | refine loop_r ?_)); apply ret_ok (.inr rfl); (focus exact rfl))
      rfl

theorem impl_AdaptiveDepth {s : Int} {nx : List (List Int)} {lp l : List Int} (h : RowsOk nx) (h2 : lp.length ≤ 9223372036854775807) (h3 : l.length ≤ 9223372036854775807) :
    AC Try.prog 15 [.agg [.int .i64 s, rows nx, ints lp], ints l] (.tup [.int .i64 (adD s nx lp l).1, .int .i64 (adD s nx lp l).2]) := by
  have e1 := impl_adaptiveCode (s := s) (nx := nx) (lp := lp) (l := l) h h2 h3
  unfold adD
  by_cases hc : adC s nx lp l = 0
  · obtain ⟨v, hv, hr, hm, hp, hb, hl⟩ := adC_facts hc
    have hs := v.s1
    rw [hc] at e1
    rw [if_pos hc]
    have e2 := impl_flockOf (l := l) (fun q hq => by have := hm q hq; omega) h3
    have e3 := impl_adaptive v hb
    generalize bitsL 0 l = f at *
    by_cases h0 : 0 ≤ dep s nx lp f
    · rw [if_pos h0]
      rw [if_pos h0, if_pos h0, decide_eq_true h0] at e3
      refine ac_intro tabIs _ Try.func15 rfl rfl Try.ntmps15 rfl rfl fun w0 ok0 => ?_
      repeat (first | refine zc ?_ | ((first | apply c_l | apply c_q | apply c_lr | apply c_qr); (iterate 2 exact rfl); (focus (first | exact e1 | exact e2 | exact e3)); (iterate 2 exact rfl)) | (apply v_c; (iterate 4 exact rfl); (focus (first | exact e1 | exact e2 | exact e3)); (iterate 2 exact rfl)) | refine zv ?_)
      (refine awp_ret ?_; (repeat (first | refine then_r ?_ | refine block_r ?_ | refine loop_r ?_)); apply ret_ok (.inr rfl); (focus exact rfl))
      rfl
    · rw [if_neg h0]
      rw [if_neg h0, if_neg h0, decide_eq_false h0] at e3
      refine ac_intro tabIs _ Try.func15 rfl rfl Try.ntmps15 rfl rfl fun w0 ok0 => ?_
      repeat (first | refine zc ?_ | ((first | apply c_l | apply c_q | apply c_lr | apply c_qr); (iterate 2 exact rfl); (focus (first | exact e1 | exact e2 | exact e3)); (iterate 2 exact rfl)) | (apply v_c; (iterate 4 exact rfl); (focus (first | exact e1 | exact e2 | exact e3)); (iterate 2 exact rfl)) | refine zv ?_)
      (refine awp_ret ?_; (repeat (first | refine then_r ?_ | refine block_r ?_ | refine loop_r ?_)); apply ret_ok (.inr rfl); (focus exact rfl))
      rfl
  · rw [if_neg hc]
    refine ac_intro tabIs _ Try.func15 rfl rfl Try.ntmps15 rfl rfl fun w0 ok0 => ?_
    repeat (first | refine zc ?_ | ((first | apply c_l | apply c_q | apply c_lr | apply c_qr); (iterate 2 exact rfl); (focus (first | exact e1)); (iterate 2 exact rfl)) | (apply v_c; (iterate 4 exact rfl); (focus (first | exact e1)); (iterate 2 exact rfl)) | refine zv ?_)
    (refine awp_ret ?_; (repeat (first | refine then_r ?_ | refine block_r ?_ | refine loop_r ?_)); apply ret_ok (.inr rfl); (focus exact rfl))
    rfl

theorem impl_AdaptiveLetter {s : Int} {nx : List (List Int)} {lp l : List Int} (h : RowsOk nx) (h2 : lp.length ≤ 9223372036854775807) (h3 : l.length ≤ 9223372036854775807) :
    AC Try.prog 20 [.agg [.int .i64 s, rows nx, ints lp], ints l] (.tup [.int .i64 (alD s nx lp l).1, .int .i64 (alD s nx lp l).2]) := by
  have e1 := impl_adaptiveCode (s := s) (nx := nx) (lp := lp) (l := l) h h2 h3
  unfold alD
  by_cases hc : adC s nx lp l = 0
  · obtain ⟨v, hv, hr, hm, hp, hb, hl⟩ := adC_facts hc
    have hs := v.s1
    rw [hc] at e1
    rw [if_pos hc]
    have e2 := impl_flockOf (l := l) (fun q hq => by have := hm q hq; omega) h3
    have e3 := impl_adaptive v hb
    generalize bitsL 0 l = f at *
    by_cases h0 : 0 ≤ dep s nx lp f
    · rw [if_pos h0]
      rw [if_pos h0, if_pos h0, decide_eq_true h0] at e3
      by_cases h1 : dep s nx lp f = 0
      · rw [if_pos h1]
        refine ac_intro tabIs _ Try.func20 rfl rfl Try.ntmps20 rfl rfl fun w0 ok0 => ?_
        repeat (first | refine zc ?_ | ((first | apply c_l | apply c_q | apply c_lr | apply c_qr); (iterate 2 exact rfl); (focus (first | exact e1 | exact e2 | exact e3)); (iterate 2 exact rfl)) | (apply v_c; (iterate 4 exact rfl); (focus (first | exact e1 | exact e2 | exact e3)); (iterate 2 exact rfl)) | refine zv ?_)
        (refine awp_ret ?_; (repeat (first | refine then_r ?_ | refine block_r ?_ | refine loop_r ?_)); apply ret_ok (.inr rfl); (focus exact rfl))
        rfl
      · rw [if_neg h1]
        refine ac_intro tabIs _ Try.func20 rfl rfl Try.ntmps20 rfl rfl fun w0 ok0 => ?_
        repeat (first | refine zc ?_ | ((first | apply c_l | apply c_q | apply c_lr | apply c_qr); (iterate 2 exact rfl); (focus (first | exact e1 | exact e2 | exact e3)); (iterate 2 exact rfl)) | (apply v_c; (iterate 4 exact rfl); (focus (first | exact e1 | exact e2 | exact e3)); (iterate 2 exact rfl)) | refine zv ?_)
        (refine awp_ret ?_; (repeat (first | refine then_r ?_ | refine block_r ?_ | refine loop_r ?_)); apply ret_ok (.inr rfl); (focus exact rfl))
        rfl
    · rw [if_neg h0]
      rw [if_neg h0, if_neg h0, decide_eq_false h0] at e3
      refine ac_intro tabIs _ Try.func20 rfl rfl Try.ntmps20 rfl rfl fun w0 ok0 => ?_
      repeat (first | refine zc ?_ | ((first | apply c_l | apply c_q | apply c_lr | apply c_qr); (iterate 2 exact rfl); (focus (first | exact e1 | exact e2 | exact e3)); (iterate 2 exact rfl)) | (apply v_c; (iterate 4 exact rfl); (focus (first | exact e1 | exact e2 | exact e3)); (iterate 2 exact rfl)) | refine zv ?_)
      (refine awp_ret ?_; (repeat (first | refine then_r ?_ | refine block_r ?_ | refine loop_r ?_)); apply ret_ok (.inr rfl); (focus exact rfl))
      rfl
  · rw [if_neg hc]
    refine ac_intro tabIs _ Try.func20 rfl rfl Try.ntmps20 rfl rfl fun w0 ok0 => ?_
    repeat (first | refine zc ?_ | ((first | apply c_l | apply c_q | apply c_lr | apply c_qr); (iterate 2 exact rfl); (focus (first | exact e1)); (iterate 2 exact rfl)) | (apply v_c; (iterate 4 exact rfl); (focus (first | exact e1)); (iterate 2 exact rfl)) | refine zv ?_)
    (refine awp_ret ?_; (repeat (first | refine then_r ?_ | refine block_r ?_ | refine loop_r ?_)); apply ret_ok (.inr rfl); (focus exact rfl))
    rfl

end Go.Proofs.Ytampglcgipefnaa

/-! AdaptiveRun, in the reference and in the program. No condition. -/
namespace Go.Proofs.Ytampglcgipefnaa
open Go
attribute [local irreducible] awp awpL awpQL awpQ awpM pWalk Qt AC thenQ blockQ loopQ OpTo
set_option linter.unusedVariables false
set_option linter.unusedSimpArgs false
set_option maxHeartbeats 2000000
attribute [local irreducible] HC

theorem impl_indexS {l : List Int} {q : Int} {k0 : Nat} (hn : l.length ≤ 9223372036854775807) (h0 : k0 < l.length) (hq : l[k0] = q) (hmin : ∀ d, (h : d < k0) → ¬ l[d] = q) : AC Try.prog 84 [ints l, .int .i64 q] (.int .i64 k0) := by
  have hle : (List.map (D.int IntKind.i64) l).length = l.length := by simp
  refine ac_intro tabIs _ Try.func84 rfl rfl Try.ntmps84 rfl rfl fun w0 ok0 => ?_
  repeat (first | refine zc ?_ | refine zv ?_)
  refine awp_loop (fun k : Nat => k ≤ k0) (fun k => [(0, .d (ints l)), (1, .d (.int .i64 q)), (7, .d (.int .i64 l.length)), (8, .d (.int .i64 k))]) (fun _ => []) (fun k => l.length - k) 0 (by omega) ?_ rfl ?_
  · refine ⟨rfl, rfl, ?_, rfl, trivial⟩
    simp [lk, args0]
  · intro k hk
    have hlt : k < l.length := by omega
    have hx := el_int hlt
    by_cases e : k < k0
    · have hne := hmin k e
      have hne2 : ¬ q = l[k] := fun h => hne h.symm
      repeat (first | refine zc ?_ | refine zv ?_)
      refine loop_n (k + 1) (by omega) ?_ rfl (by omega)
      exact zs
    · have : k = k0 := by omega
      subst this
      have he : q = l[k] := hq.symm
      repeat (first | refine zc ?_ | refine zv ?_)
      (refine awp_ret ?_; (repeat (first | refine then_r ?_ | refine block_r ?_ | refine loop_r ?_)); apply ret_ok (.inr rfl); (focus exact rfl))
      rfl
theorem impl_indexS0 {l : List Int} {q : Int} (hn : l.length ≤ 9223372036854775807) (hnot : q ∉ l) : AC Try.prog 84 [ints l, .int .i64 q] (.int .i64 (-1)) := by
  have hle : (List.map (D.int IntKind.i64) l).length = l.length := by simp
  refine ac_intro tabIs _ Try.func84 rfl rfl Try.ntmps84 rfl rfl fun w0 ok0 => ?_
  repeat (first | refine zc ?_ | refine zv ?_)
  refine awp_loop (fun k : Nat => k ≤ l.length) (fun k => [(0, .d (ints l)), (1, .d (.int .i64 q)), (7, .d (.int .i64 l.length)), (8, .d (.int .i64 k))]) (fun _ => []) (fun k => l.length - k) 0 (by omega) ?_ rfl ?_
  · refine ⟨rfl, rfl, ?_, rfl, trivial⟩
    simp [lk, args0]
  · intro k hk
    by_cases hlt : k < l.length
    · have hx := el_int hlt
      have hne2 : ¬ q = l[k] := fun h => hnot (h ▸ List.getElem_mem hlt)
      repeat (first | refine zc ?_ | refine zv ?_)
      refine loop_n (k + 1) (by omega) ?_ rfl (by omega)
      exact zs
    · have : k = l.length := by omega
      subst this
      repeat (first | refine zc ?_ | refine zv ?_)
      (refine awp_ret ?_; (repeat (first | refine then_r ?_ | refine block_r ?_ | refine loop_r ?_)); apply ret_ok (.inr rfl); (focus exact rfl))
      rfl
theorem impl_containsS {l : List Int} {q : Int} (hn : l.length ≤ 9223372036854775807) : AC Try.prog 47 [ints l, .int .i64 q] (.bool (decide (q ∈ l))) := by
  by_cases h : q ∈ l
  · obtain ⟨k, hk, hkq⟩ := List.getElem_of_mem h
    obtain ⟨k0, h1, ⟨h2, h3⟩, h4⟩ := first_ex (P := fun k => ∃ hk : k < l.length, l[k] = q) k ⟨hk, hkq⟩
    have e1 := impl_indexS hn h2 h3 fun d hd he => h4 d hd ⟨by omega, he⟩
    rw [decide_eq_true h]
    refine ac_intro tabIs _ Try.func47 rfl rfl Try.ntmps47 rfl rfl fun w0 ok0 => ?_
    repeat (first | refine zc ?_ | ((first | apply c_l | apply c_q | apply c_lr | apply c_qr); (iterate 2 exact rfl); (focus (first | exact e1)); (iterate 2 exact rfl)) | (apply v_c; (iterate 4 exact rfl); (focus (first | exact e1)); (iterate 2 exact rfl)) | refine zv ?_)
    (refine awp_ret ?_; (repeat (first | refine then_r ?_ | refine block_r ?_ | refine loop_r ?_)); apply ret_ok (.inr rfl); (focus exact rfl))
    rw [decide_eq_true (by omega)]
  · have e1 := impl_indexS0 hn h
    rw [decide_eq_false h]
    refine ac_intro tabIs _ Try.func47 rfl rfl Try.ntmps47 rfl rfl fun w0 ok0 => ?_
    repeat (first | refine zc ?_ | ((first | apply c_l | apply c_q | apply c_lr | apply c_qr); (iterate 2 exact rfl); (focus (first | exact e1)); (iterate 2 exact rfl)) | (apply v_c; (iterate 4 exact rfl); (focus (first | exact e1)); (iterate 2 exact rfl)) | refine zv ?_)
    (refine awp_ret ?_; (repeat (first | refine then_r ?_ | refine block_r ?_ | refine loop_r ?_)); apply ret_ok (.inr rfl); (focus exact rfl))
    rfl

/-! ### The run -/

noncomputable def runA (s : Int) (nx : List (List Int)) (lp : List Int) : Nat → Nat → Int → List Int → List Int × Int
  | 0, _, q, out => (out, q)
  | k + 1, f, q, out => if dep s nx lp f = 0 then (out, q) else runA s nx lp k (bel nx lp f (ltr s nx lp f).toNat (lamp lp (at2 nx (ltr s nx lp f) q)).toNat) (at2 nx (ltr s nx lp f) q) (out ++ [ltr s nx lp f])
theorem runA_len {s : Int} {nx : List (List Int)} {lp : List Int} : ∀ (k f : Nat) (q : Int) (out : List Int), (runA s nx lp k f q out).1.length ≤ out.length + k
  | 0, _, _, out => Nat.le_refl _
  | k + 1, f, q, out => by
    unfold runA
    split
    · show out.length ≤ _; omega
    · have := runA_len (s := s) (nx := nx) (lp := lp) k (bel nx lp f (ltr s nx lp f).toNat (lamp lp (at2 nx (ltr s nx lp f) q)).toNat) (at2 nx (ltr s nx lp f) q) (out ++ [ltr s nx lp f])
      rw [List.length_append] at this
      simp only [List.length_singleton] at this
      omega
theorem runA_end {s : Int} {nx : List (List Int)} {lp : List Int} {k f : Nat} {q : Int} {out : List Int} (h : dep s nx lp f = 0) : runA s nx lp k f q out = (out, q) := by
  cases k with
  | zero => rfl
  | succ k => exact if_pos h
/-- One step. -/
structure Stp (s : Int) (nx : List (List Int)) (lp : List Int) (f : Nat) (q : Int) (x y : Nat) (q' : Int) : Prop where
  x1 : x < nx.length
  y1 : y < 4
  l1 : ltr s nx lp f = x
  a1 : at2 nx x q = q'
  q1 : 0 ≤ q' ∧ q' < s
  y2 : lamp lp q' = y
  f1 : bel nx lp f x y < 2 ^ s.toNat
  d1 : 0 ≤ dep s nx lp (bel nx lp f x y) ∧ dep s nx lp (bel nx lp f x y) < dep s nx lp f
  r1 : ∀ (k : Nat) (out : List Int), dep s nx lp f ≤ k → runA s nx lp k f q out = runA s nx lp (k - 1) (bel nx lp f x y) q' (out ++ [(x : Int)])
theorem lamp_range {s : Int} {nx : List (List Int)} {lp : List Int} (hv : litOk s nx lp = true) {q : Int} (hq : 0 ≤ q ∧ q < s) : 0 ≤ lamp lp q ∧ lamp lp q ≤ 3 := by
  have v := lv_of hv
  have hlp := v.lp
  simp only [litOk, Bool.and_eq_true] at hv
  have hall := hv.2.2
  simp only [allIn, List.all_eq_true, inB, Bool.and_eq_true, decide_eq_true_eq] at hall
  have hm : lamp lp q ∈ lp := by
    unfold lamp
    have hlt : q.toNat < lp.length := by omega
    rw [List.getD_eq_getElem?_getD, List.getElem?_eq_getElem hlt]
    exact List.getElem_mem hlt
  exact hall _ hm
theorem stp {s : Int} {nx : List (List Int)} {lp : List Int} (hv : litOk s nx lp = true) {f : Nat} {q : Int} (hf : f < 2 ^ s.toNat) (hq : 0 ≤ q ∧ q < s) (hd : 0 < dep s nx lp f) : ∃ x y q', Stp s nx lp f q x y q' := by
  have v := lv_of hv
  obtain ⟨⟨x, hx1, hx2, hx3⟩, _⟩ := ltr_spec hd
  have hx' : 0 ≤ (x : Int) ∧ (x : Int) < nx.length := by omega
  have hq' := tbl_at v.nx hx' hq
  have hl := lamp_range hv hq'
  have hy : lamp lp (at2 nx x q) = ((lamp lp (at2 nx x q)).toNat : Int) := by omega
  refine ⟨x, (lamp lp (at2 nx x q)).toNat, at2 nx x q, hx2, by omega, hx1, rfl, hq', hy, bel_lt v hf hx2, fitB_iff.1 hx3 _ (by omega), fun k out hk => ?_⟩
  cases k with
  | zero => omega
  | succ k =>
    show (if dep s nx lp f = 0 then (out, q) else _) = _
    rw [if_neg (by omega), hx1]
    rfl

theorem dep_zero {s : Int} {nx : List (List Int)} {lp : List Int} {f : Nat} : dep s nx lp f = 0 ↔ sm f = true := by
  unfold dep
  generalize Classical.choose (still_ex nx lp (List.range (2 ^ s.toNat))) = c
  have h0 : dN nx lp 0 f = if sm f then 0 else -1 := rfl
  have h1 : 0 ≤ dN nx lp 0 f ↔ 0 ≤ dN nx lp c f ∧ dN nx lp c f ≤ (0 : Nat) := dv_le (Nat.zero_le c)
  constructor
  · intro h
    have := h1.2 (by omega)
    cases hs : sm f with
    | true => rfl
    | false => rw [h0, hs] at this; simp at this
  · intro h
    rw [h, if_pos rfl] at h0
    have := h1.1 (by omega)
    omega
theorem len_all : ((List.range 1024).all fun f => decide ((setN f).length ≤ 1) == sm f) = true := by decide +kernel
theorem len_sm {f : Nat} (hf : f < 1024) : (setN f).length ≤ 1 ↔ sm f = true := by
  have := List.all_eq_true.1 len_all f (List.mem_range.2 hf)
  simp only [beq_iff_eq] at this
  rw [← this, decide_eq_true_eq]

/-- What AdaptiveRun answers. -/
noncomputable def rnD (s : Int) (nx : List (List Int)) (lp l : List Int) (q : Int) : List Int × Int × Int :=
  if adC s nx lp l = 0 then
    if q ∈ l then
      if 0 ≤ dep s nx lp (bitsL 0 l) then ((runA s nx lp (dep s nx lp (bitsL 0 l)).toNat (bitsL 0 l) q []).1, (runA s nx lp (dep s nx lp (bitsL 0 l)).toNat (bitsL 0 l) q []).2, 0) else ([], 0, 6)
    else ([], 0, 2)
  else ([], 0, adC s nx lp l)
end Go.Proofs.Ytampglcgipefnaa
