/- Depths of sets: AdaptiveDepth and AdaptiveLetter, in the reference and in the program, and their laws. No condition. -/
import Derived.Test.YtkomkhigcdkpdaaDg
import Derived.Test.YtkomkhigcdkpdaaSf
namespace Go.Proofs.Ytkomkhigcdkpdaa
open Go
attribute [local irreducible] awp awpL awpQL awpQ awpM pWalk Qt AC thenQ blockQ loopQ OpTo
set_option linter.unusedVariables false
set_option linter.unusedSimpArgs false
set_option maxHeartbeats 2000000
attribute [local irreducible] HC

/-- The depth of a set. -/
noncomputable def dep (s : Int) (nx : List (List Int)) (lp : List Int) (f : Nat) : Int := dN nx lp (Classical.choose (still_ex nx lp (List.range (2 ^ s.toNat)))) f

theorem dep_range {s : Int} {nx : List (List Int)} {lp : List Int} {f : Nat} : dep s nx lp f = -1 ∨ (0 ≤ dep s nx lp f ∧ dep s nx lp f ≤ ((2 ^ s.toNat : Nat) : Int)) := by
  have h := Nat.le_trans (Classical.choose_spec (still_ex nx lp (List.range (2 ^ s.toNat)))).1 (Nat.le_of_eq List.length_range)
  unfold dep
  generalize Classical.choose (still_ex nx lp (List.range (2 ^ s.toNat))) = c at h ⊢
  rcases dN_range (nx := nx) (lp := lp) (d := c) (f := f) with h1 | h1
  · exact .inl h1
  · exact .inr ⟨h1.1, by omega⟩
theorem spec_depths {s : Int} {nx : List (List Int)} {lp : List Int} (v : LV s nx lp) : AC Try.prog 46 [.ptr (.agg [.int .i64 s, rows nx, ints lp])] (ints (fnL (2 ^ s.toNat) (dep s nx lp))) := by
  obtain ⟨h1, h2, h3⟩ := Classical.choose_spec (still_ex nx lp (List.range (2 ^ s.toNat)))
  exact spec_l08Depths v h2 h3 (Nat.le_trans h1 (Nat.le_of_eq List.length_range))
/-- Any count of rounds that is the last gives the depth. -/
theorem dep_same {s : Int} {nx : List (List Int)} {lp : List Int} (v : LV s nx lp) {l : List Nat} (hlt : ∀ f ∈ l, f < 2 ^ s.toNat) (hcl : ∀ f ∈ l, ∀ x y, x < nx.length → y < 4 → bel nx lp f x y ∈ l) {Z : Nat} (hst : still nx lp l Z) {f : Nat} (hf : f ∈ l) : dN nx lp Z f = dep s nx lp f := by
  have h2 := (Classical.choose_spec (still_ex nx lp (List.range (2 ^ s.toNat)))).2.1
  exact dv_same (S := (· ∈ l)) (S' := (· < 2 ^ s.toNat)) (fun f x y h hx hy => hcl f h x y hx hy) (fun f x y h hx hy => bel_lt v h hx) hst (fun g hg => h2 g (List.mem_range.2 hg)) hf (hlt f hf)

/-- The first letter with which a set has its depth. -/
noncomputable def ltr (s : Int) (nx : List (List Int)) (lp : List Int) (f : Nat) : Int := fstL (fun x => fitB (dep s nx lp) (dep s nx lp f) (bel nx lp f x) 4) nx.length (-1)

theorem fitB_iff {G : Nat → Int} {dp : Int} {b : Nat → Nat} {k : Nat} : fitB G dp b k = true ↔ ∀ y, y < k → 0 ≤ G (b y) ∧ G (b y) < dp := by
  unfold fitB
  rw [List.all_eq_true]
  constructor
  · intro h y hy
    have := h y (List.mem_range.2 hy)
    simpa using this
  · intro h y hy
    have := h y (List.mem_range.1 hy)
    simpa using this

theorem ltr_spec {s : Int} {nx : List (List Int)} {lp : List Int} {f : Nat} (h : 0 < dep s nx lp f) : (∃ x : Nat, ltr s nx lp f = x ∧ x < nx.length ∧ fitB (dep s nx lp) (dep s nx lp f) (bel nx lp f x) 4 = true) ∧ fstL (fun x => decide (wors (fun y => dep s nx lp (bel nx lp f x y)) 4 = dep s nx lp f - 1)) nx.length 0 = ltr s nx lp f := by
  obtain ⟨d, hd⟩ : ∃ d : Nat, dep s nx lp f = ((d + 1 : Nat) : Int) := ⟨(dep s nx lp f).toNat - 1, by omega⟩
  have hdd : dv sm (bel nx lp) nx.length 4 (Classical.choose (still_ex nx lp (List.range (2 ^ s.toNat)))) f = ((d + 1 : Nat) : Int) := hd
  obtain ⟨⟨x, hx, hg⟩, hlt, hno⟩ := dv_letter hdd (by omega)
  have he : ∃ x, x < nx.length ∧ fitB (dep s nx lp) (dep s nx lp f) (bel nx lp f x) 4 = true := ⟨x, hx, fitB_iff.2 fun y hy => by
    have h1 := (dv_le (sm := sm) (bel := bel nx lp) (n := nx.length) (L := 4) (g := bel nx lp f x y) (Nat.le_of_lt hlt)).1 (good_iff.1 hg y hy)
    rw [hd]
    exact ⟨h1.1, by have : dep s nx lp (bel nx lp f x y) ≤ d := h1.2
                    omega⟩⟩
  refine ⟨fstL_mem he, ?_⟩
  refine (fstL_congr (fun x hx => ?_) he).symm
  have hno' := hno x hx
  rw [Bool.eq_iff_iff, fitB_iff, decide_eq_true_eq, hd]
  unfold wors
  constructor
  · intro h
    rw [if_pos fun y hy => (h y hy).1]
    have h1 : wst (fun y => dep s nx lp (bel nx lp f x y)) 4 < ((d + 1 : Nat) : Int) := wst_lt.2 fun y hy => (h y hy).2
    have h2 : ¬ wst (fun y => dep s nx lp (bel nx lp f x y)) 4 < (d : Int) := fun hc => by
      match d, hc, hno', h with
      | 0, hc, _, _ => have := wst_range (g := fun y => dep s nx lp (bel nx lp f x y)) (k := 4); omega
      | e + 1, hc, hno', h => exact hno' fun y hy => ⟨(h y hy).1, wst_lt.1 hc y hy⟩
    omega
  · intro h
    split at h
    · rename_i hall
      have h1 : wst (fun y => dep s nx lp (bel nx lp f x y)) 4 < ((d + 1 : Nat) : Int) := by omega
      exact fun y hy => ⟨hall y hy, wst_lt.1 h1 y hy⟩
    · omega

theorem impl_adaptive {s : Int} {nx : List (List Int)} {lp : List Int} (v : LV s nx lp) {f : Nat} (hf : f < 2 ^ s.toNat) :
    AC Try.prog 50 [.agg [.int .i64 s, rows nx, ints lp], .int .u64 f] (.tup [.int .i64 (if 0 ≤ dep s nx lp f then dep s nx lp f else 0), .int .i64 (if 0 ≤ dep s nx lp f then ltr s nx lp f else 0), .bool (decide (0 ≤ dep s nx lp f))]) := by
  have hn := v.n1
  have hbl : ∀ f x y : Nat, f < 2 ^ s.toNat → x < nx.length → y < 4 → bel nx lp f x y < 2 ^ s.toNat := fun f x y h1 h2 _ => bel_lt v h1 h2
  obtain ⟨I, h1, h2, h3, h4⟩ := clo_ex hf hbl
  obtain ⟨Z, z1, z2, z3⟩ := still_ex nx lp (cloI (bel nx lp) nx.length f I)
  have e1 := impl_depths v hf rfl h1 h2 (fun i => cloI_ok hf hbl i) h4 z2 z3 z1
  have hfm := h3.fr
  have hget : ∀ g ∈ cloI (bel nx lp) nx.length f I, mget (g : Int) (KV nx lp (cloI (bel nx lp) nx.length f I) (Z + 2)) = optD (dep s nx lp g) := fun g hg => by
    rw [KV_get (Z + 2) g hg, ← dep_same v h3.lt h4 z2 hg]
    show optD (dN nx lp (Z + 1) g) = _
    rw [z2 g hg]
  have hk := KV_keys (nx := nx) (lp := lp) (l := cloI (bel nx lp) nx.length f I) (Z + 2)
  have hf1 := hget f hfm
  have hlet := impl_letter (G := dep s nx lp) (dp := dep s nx lp f) v hf hk fun x y hx hy => hget _ (h4 f hfm x y hx hy)
  unfold ltr
  generalize KV nx lp (cloI (bel nx lp) nx.length f I) (Z + 2) = kvs at *
  by_cases h0 : 0 ≤ dep s nx lp f
  · have hg : MGet (f : Int) kvs (some (.int .i64 (dep s nx lp f))) := ⟨by rw [hf1]; exact if_pos h0⟩
    rw [if_pos h0, if_pos h0, decide_eq_true h0]
    refine ac_intro tabIs _ Try.func50 rfl rfl Try.ntmps50 rfl rfl fun w0 ok0 => ?_
    repeat (first | refine awp_seq ?_ | refine then_n ?_ | refine then_r ?_ | refine then_x ?_ | refine block_n ?_ | refine block_r ?_ | refine block_x ?_ | refine u_y ?_ | refine loop_r ?_ | refine loop_x ?_ | refine awp_region ?_ | refine awpL_nil ?_ | refine awpQL_nil ?_ | refine awp_block ?_ | refine awp_skip ?_ | refine awp_exit ?_ | refine awp_label ?_ | refine u_dT ?_ | refine u_d ?_ | ((first | apply x_l | apply x_q | apply x_lr | apply x_qr); (focus (first | (apply wa_got; (iterate 11 (focus (first | exact rfl | (first | assumption | omega | (simp; omega) | (simp; done) | rfl))))))); exact rfl) | ((first | apply c_l | apply c_q | apply c_lr | apply c_qr); (iterate 2 exact rfl); (focus (first | exact e1 | exact hlet)); (iterate 2 exact rfl)) | (apply v_x; (iterate 2 exact rfl); (focus (intro ok0 nw hle; (first | (apply wa_got; (iterate 11 (focus (first | exact rfl | (first | assumption | omega | (simp; omega) | (simp; done) | rfl)))))))); (iterate 2 exact rfl)) | (apply v_c; (iterate 4 exact rfl); (focus (first | exact e1 | exact hlet)); (iterate 2 exact rfl)) | refine u_l ?_ | refine u_o ?_ | refine u_q ?_ | refine u_lr ?_ | refine u_qr ?_ | refine u_ls ?_ | refine u_qs ?_ | refine u_t ?_ | refine u_f ?_ | refine v_s ?_ | refine v_o ?_ | refine v_on ?_ | refine v_og ?_ | refine v_q ?_ | refine v_sr ?_ | refine v_k ?_ | refine m_nil ?_)
    (refine awp_ret ?_; (repeat (first | refine then_r ?_ | refine block_r ?_ | refine loop_r ?_)); apply ret_ok (.inr rfl); (focus exact rfl))
    rfl
  · have hg : MGet (f : Int) kvs none := ⟨by rw [hf1]; exact if_neg h0⟩
    rw [if_neg h0, if_neg h0, decide_eq_false h0]
    refine ac_intro tabIs _ Try.func50 rfl rfl Try.ntmps50 rfl rfl fun w0 ok0 => ?_
    repeat (first | refine awp_seq ?_ | refine then_n ?_ | refine then_r ?_ | refine then_x ?_ | refine block_n ?_ | refine block_r ?_ | refine block_x ?_ | refine u_y ?_ | refine loop_r ?_ | refine loop_x ?_ | refine awp_region ?_ | refine awpL_nil ?_ | refine awpQL_nil ?_ | refine awp_block ?_ | refine awp_skip ?_ | refine awp_exit ?_ | refine awp_label ?_ | refine u_dT ?_ | refine u_d ?_ | ((first | apply x_l | apply x_q | apply x_lr | apply x_qr); (focus (first | (apply wa_got; (iterate 11 (focus (first | exact rfl | (first | assumption | omega | (simp; omega) | (simp; done) | rfl))))))); exact rfl) | ((first | apply c_l | apply c_q | apply c_lr | apply c_qr); (iterate 2 exact rfl); (focus (first | exact e1 | exact hlet)); (iterate 2 exact rfl)) | (apply v_x; (iterate 2 exact rfl); (focus (intro ok0 nw hle; (first | (apply wa_got; (iterate 11 (focus (first | exact rfl | (first | assumption | omega | (simp; omega) | (simp; done) | rfl)))))))); (iterate 2 exact rfl)) | (apply v_c; (iterate 4 exact rfl); (focus (first | exact e1 | exact hlet)); (iterate 2 exact rfl)) | refine u_l ?_ | refine u_o ?_ | refine u_q ?_ | refine u_lr ?_ | refine u_qr ?_ | refine u_ls ?_ | refine u_qs ?_ | refine u_t ?_ | refine u_f ?_ | refine v_s ?_ | refine v_o ?_ | refine v_on ?_ | refine v_og ?_ | refine v_q ?_ | refine v_sr ?_ | refine v_k ?_ | refine m_nil ?_)
    (refine awp_ret ?_; (repeat (first | refine then_r ?_ | refine block_r ?_ | refine loop_r ?_)); apply ret_ok (.inr rfl); (focus exact rfl))
    rfl

/-- The code of a lit automaton and of a set. -/
def adC (s : Int) (nx : List (List Int)) (lp l : List Int) : Int := if litOk s nx lp then if risB l (s - 1) then 0 else 2 else 1
theorem impl_adaptiveCode {s : Int} {nx : List (List Int)} {lp l : List Int} (h : RowsOk nx) (h2 : lp.length ≤ 9223372036854775807) (h3 : l.length ≤ 9223372036854775807) :
    AC Try.prog 49 [.agg [.int .i64 s, rows nx, ints lp], ints l] (.int .i64 (adC s nx lp l)) := by
  have e1 := impl_ValidLit (s := s) (nx := nx) (lp := lp) h h2
  unfold adC
  cases hv : litOk s nx lp
  · rw [hv] at e1
    refine ac_intro tabIs _ Try.func49 rfl rfl Try.ntmps49 rfl rfl fun w0 ok0 => ?_
    repeat (first | refine awp_seq ?_ | refine then_n ?_ | refine then_r ?_ | refine then_x ?_ | refine block_n ?_ | refine block_r ?_ | refine block_x ?_ | refine u_y ?_ | refine loop_r ?_ | refine loop_x ?_ | refine awp_region ?_ | refine awpL_nil ?_ | refine awpQL_nil ?_ | refine awp_block ?_ | refine awp_skip ?_ | refine awp_exit ?_ | refine awp_label ?_ | refine u_dT ?_ | refine u_d ?_ | ((first | apply c_l | apply c_q | apply c_lr | apply c_qr); (iterate 2 exact rfl); (focus (first | exact e1)); (iterate 2 exact rfl)) | (apply v_c; (iterate 4 exact rfl); (focus (first | exact e1)); (iterate 2 exact rfl)) | refine u_l ?_ | refine u_o ?_ | refine u_q ?_ | refine u_lr ?_ | refine u_qr ?_ | refine u_ls ?_ | refine u_qs ?_ | refine u_t ?_ | refine u_f ?_ | refine v_s ?_ | refine v_o ?_ | refine v_on ?_ | refine v_og ?_ | refine v_q ?_ | refine v_sr ?_ | refine v_k ?_ | refine m_nil ?_)
    (refine awp_ret ?_; (repeat (first | refine then_r ?_ | refine block_r ?_ | refine loop_r ?_)); apply ret_ok (.inr rfl); (focus exact rfl))
    rfl
  · rw [hv] at e1
    have v := lv_of hv
    have hs := v.s1
    have e2 := impl_isSet (l := l) (b := s) (by omega) h3
    cases hr : risB l (s - 1)
    · rw [hr] at e2
      refine ac_intro tabIs _ Try.func49 rfl rfl Try.ntmps49 rfl rfl fun w0 ok0 => ?_
      repeat (first | refine awp_seq ?_ | refine then_n ?_ | refine then_r ?_ | refine then_x ?_ | refine block_n ?_ | refine block_r ?_ | refine block_x ?_ | refine u_y ?_ | refine loop_r ?_ | refine loop_x ?_ | refine awp_region ?_ | refine awpL_nil ?_ | refine awpQL_nil ?_ | refine awp_block ?_ | refine awp_skip ?_ | refine awp_exit ?_ | refine awp_label ?_ | refine u_dT ?_ | refine u_d ?_ | ((first | apply c_l | apply c_q | apply c_lr | apply c_qr); (iterate 2 exact rfl); (focus (first | exact e1 | exact e2)); (iterate 2 exact rfl)) | (apply v_c; (iterate 4 exact rfl); (focus (first | exact e1 | exact e2)); (iterate 2 exact rfl)) | refine u_l ?_ | refine u_o ?_ | refine u_q ?_ | refine u_lr ?_ | refine u_qr ?_ | refine u_ls ?_ | refine u_qs ?_ | refine u_t ?_ | refine u_f ?_ | refine v_s ?_ | refine v_o ?_ | refine v_on ?_ | refine v_og ?_ | refine v_q ?_ | refine v_sr ?_ | refine v_k ?_ | refine m_nil ?_)
      (refine awp_ret ?_; (repeat (first | refine then_r ?_ | refine block_r ?_ | refine loop_r ?_)); apply ret_ok (.inr rfl); (focus exact rfl))
      rfl
    · rw [hr] at e2
      refine ac_intro tabIs _ Try.func49 rfl rfl Try.ntmps49 rfl rfl fun w0 ok0 => ?_
      repeat (first | refine awp_seq ?_ | refine then_n ?_ | refine then_r ?_ | refine then_x ?_ | refine block_n ?_ | refine block_r ?_ | refine block_x ?_ | refine u_y ?_ | refine loop_r ?_ | refine loop_x ?_ | refine awp_region ?_ | refine awpL_nil ?_ | refine awpQL_nil ?_ | refine awp_block ?_ | refine awp_skip ?_ | refine awp_exit ?_ | refine awp_label ?_ | refine u_dT ?_ | refine u_d ?_ | ((first | apply c_l | apply c_q | apply c_lr | apply c_qr); (iterate 2 exact rfl); (focus (first | exact e1 | exact e2)); (iterate 2 exact rfl)) | (apply v_c; (iterate 4 exact rfl); (focus (first | exact e1 | exact e2)); (iterate 2 exact rfl)) | refine u_l ?_ | refine u_o ?_ | refine u_q ?_ | refine u_lr ?_ | refine u_qr ?_ | refine u_ls ?_ | refine u_qs ?_ | refine u_t ?_ | refine u_f ?_ | refine v_s ?_ | refine v_o ?_ | refine v_on ?_ | refine v_og ?_ | refine v_q ?_ | refine v_sr ?_ | refine v_k ?_ | refine m_nil ?_)
      (refine awp_ret ?_; (repeat (first | refine then_r ?_ | refine block_r ?_ | refine loop_r ?_)); apply ret_ok (.inr rfl); (focus exact rfl))
      rfl
theorem adC_facts {s : Int} {nx : List (List Int)} {lp l : List Int} (h : adC s nx lp l = 0) : LV s nx lp ∧ litOk s nx lp = true ∧ risB l (s - 1) = true ∧ (∀ q ∈ l, 0 ≤ q ∧ q < s) ∧ l.Pairwise (· < ·) ∧ bitsL 0 l < 2 ^ s.toNat ∧ l.length ≤ 10 := by
  unfold adC at h
  cases hv : litOk s nx lp
  · rw [hv] at h; simp at h
  · rw [hv] at h
    cases hr : risB l (s - 1)
    · rw [hr] at h; simp at h
    · have v := lv_of hv
      have hs := v.s1
      obtain ⟨h1, h2⟩ := ris_of hr
      have hm : ∀ q ∈ l, 0 ≤ q ∧ q < s := fun q hq => by have := h1 q hq; omega
      refine ⟨v, rfl, rfl, hm, h2, bits_lt l 0 (Nat.two_pow_pos _) fun q hq => by have := hm q hq; omega, ?_⟩
      have := incr_len h2 0 fun q hq => by have := hm q hq; omega
      omega
theorem adC_not {s : Int} {nx : List (List Int)} {lp l : List Int} (h : ¬ adC s nx lp l = 0) : (litOk s nx lp = false ∧ adC s nx lp l = 1) ∨ (litOk s nx lp = true ∧ risB l (s - 1) = false ∧ adC s nx lp l = 2) := by
  unfold adC at *
  cases hv : litOk s nx lp
  · exact .inl ⟨rfl, rfl⟩
  · cases hr : risB l (s - 1)
    · exact .inr ⟨rfl, rfl, rfl⟩
    · rw [hv, hr] at h; simp at h

/-- What AdaptiveDepth answers. -/
noncomputable def adD (s : Int) (nx : List (List Int)) (lp l : List Int) : Int × Int := if adC s nx lp l = 0 then if 0 ≤ dep s nx lp (bitsL 0 l) then (dep s nx lp (bitsL 0 l), 0) else (0, 6) else (0, adC s nx lp l)
/-- What AdaptiveLetter answers. -/
noncomputable def alD (s : Int) (nx : List (List Int)) (lp l : List Int) : Int × Int := if adC s nx lp l = 0 then if 0 ≤ dep s nx lp (bitsL 0 l) then if dep s nx lp (bitsL 0 l) = 0 then (0, 4) else (ltr s nx lp (bitsL 0 l), 0) else (0, 6) else (0, adC s nx lp l)

theorem spec_AdaptiveDepth {s : Int} {nx : List (List Int)} {lp l : List Int} (h : RowsOk nx) (h2 : lp.length ≤ 9223372036854775807) (h3 : l.length ≤ 9223372036854775807) :
    AC Try.prog 11 [.agg [.int .i64 s, rows nx, ints lp], ints l] (.tup [.int .i64 (adD s nx lp l).1, .int .i64 (adD s nx lp l).2]) := by
  have e1 := spec_l08Ok (s := s) (nx := nx) (lp := lp) h h2
  unfold adD
  by_cases hc : adC s nx lp l = 0
  · obtain ⟨v, hv, hr, hm, hp, hb, hl⟩ := adC_facts hc
    have hs := v.s1
    have e2 := spec_l01Set (s := s) (nx := nx) (l := l) hs h3
    rw [hv] at e1
    rw [hr] at e2
    rw [if_pos hc]
    have e3 := spec_depths v
    have e4 := spec_l02Bits (l := l) (fun q hq => by have := hm q hq; omega) h3
    have hel := fnL_el (F := dep s nx lp) hb
    have hdr := dep_range (s := s) (nx := nx) (lp := lp) (f := bitsL 0 l)
    generalize bitsL 0 l = f at *
    by_cases h0 : 0 ≤ dep s nx lp f
    · rw [if_pos h0]
      refine ac_intro tabIs _ Try.func11 rfl rfl Try.ntmps11 rfl rfl fun w0 ok0 => ?_
      repeat (first | refine awp_seq ?_ | refine then_n ?_ | refine then_r ?_ | refine then_x ?_ | refine block_n ?_ | refine block_r ?_ | refine block_x ?_ | refine u_y ?_ | refine loop_r ?_ | refine loop_x ?_ | refine awp_region ?_ | refine awpL_nil ?_ | refine awpQL_nil ?_ | refine awp_block ?_ | refine awp_skip ?_ | refine awp_exit ?_ | refine awp_label ?_ | refine u_dT ?_ | refine u_d ?_ | ((first | apply c_l | apply c_q | apply c_lr | apply c_qr); (iterate 2 exact rfl); (focus (first | exact e1 | exact e2 | exact e3 | exact e4)); (iterate 2 exact rfl)) | (apply v_c; (iterate 4 exact rfl); (focus (first | exact e1 | exact e2 | exact e3 | exact e4)); (iterate 2 exact rfl)) | refine u_l ?_ | refine u_o ?_ | refine u_q ?_ | refine u_lr ?_ | refine u_qr ?_ | refine u_ls ?_ | refine u_qs ?_ | refine u_t ?_ | refine u_f ?_ | refine v_s ?_ | refine v_o ?_ | refine v_on ?_ | refine v_og ?_ | refine v_q ?_ | refine v_sr ?_ | refine v_k ?_ | refine m_nil ?_)
      (refine awp_ret ?_; (repeat (first | refine then_r ?_ | refine block_r ?_ | refine loop_r ?_)); apply ret_ok (.inr rfl); (focus exact rfl))
      rfl
    · rw [if_neg h0]
      refine ac_intro tabIs _ Try.func11 rfl rfl Try.ntmps11 rfl rfl fun w0 ok0 => ?_
      repeat (first | refine awp_seq ?_ | refine then_n ?_ | refine then_r ?_ | refine then_x ?_ | refine block_n ?_ | refine block_r ?_ | refine block_x ?_ | refine u_y ?_ | refine loop_r ?_ | refine loop_x ?_ | refine awp_region ?_ | refine awpL_nil ?_ | refine awpQL_nil ?_ | refine awp_block ?_ | refine awp_skip ?_ | refine awp_exit ?_ | refine awp_label ?_ | refine u_dT ?_ | refine u_d ?_ | ((first | apply c_l | apply c_q | apply c_lr | apply c_qr); (iterate 2 exact rfl); (focus (first | exact e1 | exact e2 | exact e3 | exact e4)); (iterate 2 exact rfl)) | (apply v_c; (iterate 4 exact rfl); (focus (first | exact e1 | exact e2 | exact e3 | exact e4)); (iterate 2 exact rfl)) | refine u_l ?_ | refine u_o ?_ | refine u_q ?_ | refine u_lr ?_ | refine u_qr ?_ | refine u_ls ?_ | refine u_qs ?_ | refine u_t ?_ | refine u_f ?_ | refine v_s ?_ | refine v_o ?_ | refine v_on ?_ | refine v_og ?_ | refine v_q ?_ | refine v_sr ?_ | refine v_k ?_ | refine m_nil ?_)
      (refine awp_ret ?_; (repeat (first | refine then_r ?_ | refine block_r ?_ | refine loop_r ?_)); apply ret_ok (.inr rfl); (focus exact rfl))
      rfl
  · rw [if_neg hc]
    rcases adC_not hc with ⟨hv, ha⟩ | ⟨hv, hr, ha⟩
    · rw [ha]
      rw [hv] at e1
      refine ac_intro tabIs _ Try.func11 rfl rfl Try.ntmps11 rfl rfl fun w0 ok0 => ?_
      repeat (first | refine awp_seq ?_ | refine then_n ?_ | refine then_r ?_ | refine then_x ?_ | refine block_n ?_ | refine block_r ?_ | refine block_x ?_ | refine u_y ?_ | refine loop_r ?_ | refine loop_x ?_ | refine awp_region ?_ | refine awpL_nil ?_ | refine awpQL_nil ?_ | refine awp_block ?_ | refine awp_skip ?_ | refine awp_exit ?_ | refine awp_label ?_ | refine u_dT ?_ | refine u_d ?_ | ((first | apply c_l | apply c_q | apply c_lr | apply c_qr); (iterate 2 exact rfl); (focus (first | exact e1)); (iterate 2 exact rfl)) | (apply v_c; (iterate 4 exact rfl); (focus (first | exact e1)); (iterate 2 exact rfl)) | refine u_l ?_ | refine u_o ?_ | refine u_q ?_ | refine u_lr ?_ | refine u_qr ?_ | refine u_ls ?_ | refine u_qs ?_ | refine u_t ?_ | refine u_f ?_ | refine v_s ?_ | refine v_o ?_ | refine v_on ?_ | refine v_og ?_ | refine v_q ?_ | refine v_sr ?_ | refine v_k ?_ | refine m_nil ?_)
      (refine awp_ret ?_; (repeat (first | refine then_r ?_ | refine block_r ?_ | refine loop_r ?_)); apply ret_ok (.inr rfl); (focus exact rfl))
      rfl
    · rw [ha]
      rw [hv] at e1
      have e2 := spec_l01Set (s := s) (nx := nx) (l := l) (lv_of hv).s1 h3
      rw [hr] at e2
      refine ac_intro tabIs _ Try.func11 rfl rfl Try.ntmps11 rfl rfl fun w0 ok0 => ?_
      repeat (first | refine awp_seq ?_ | refine then_n ?_ | refine then_r ?_ | refine then_x ?_ | refine block_n ?_ | refine block_r ?_ | refine block_x ?_ | refine u_y ?_ | refine loop_r ?_ | refine loop_x ?_ | refine awp_region ?_ | refine awpL_nil ?_ | refine awpQL_nil ?_ | refine awp_block ?_ | refine awp_skip ?_ | refine awp_exit ?_ | refine awp_label ?_ | refine u_dT ?_ | refine u_d ?_ | ((first | apply c_l | apply c_q | apply c_lr | apply c_qr); (iterate 2 exact rfl); (focus (first | exact e1 | exact e2)); (iterate 2 exact rfl)) | (apply v_c; (iterate 4 exact rfl); (focus (first | exact e1 | exact e2)); (iterate 2 exact rfl)) | refine u_l ?_ | refine u_o ?_ | refine u_q ?_ | refine u_lr ?_ | refine u_qr ?_ | refine u_ls ?_ | refine u_qs ?_ | refine u_t ?_ | refine u_f ?_ | refine v_s ?_ | refine v_o ?_ | refine v_on ?_ | refine v_og ?_ | refine v_q ?_ | refine v_sr ?_ | refine v_k ?_ | refine m_nil ?_)
      (refine awp_ret ?_; (repeat (first | refine then_r ?_ | refine block_r ?_ | refine loop_r ?_)); apply ret_ok (.inr rfl); (focus exact rfl))
      rfl

theorem impl_AdaptiveDepth {s : Int} {nx : List (List Int)} {lp l : List Int} (h : RowsOk nx) (h2 : lp.length ≤ 9223372036854775807) (h3 : l.length ≤ 9223372036854775807) :
    AC Try.prog 14 [.agg [.int .i64 s, rows nx, ints lp], ints l] (.tup [.int .i64 (adD s nx lp l).1, .int .i64 (adD s nx lp l).2]) := by
  have e1 := impl_adaptiveCode (s := s) (nx := nx) (lp := lp) (l := l) h h2 h3
  unfold adD
  by_cases hc : adC s nx lp l = 0
  · obtain ⟨v, hv, hr, hm, hp, hb, hl⟩ := adC_facts hc
    have hs := v.s1
    rw [hc] at e1
    rw [if_pos hc]
    have e2 := impl_flockOf (l := l) (fun q hq => by have := hm q hq; omega) h3
    have e3 := impl_adaptive v hb
    generalize bitsL 0 l = f at *
    by_cases h0 : 0 ≤ dep s nx lp f
    · rw [if_pos h0]
      rw [if_pos h0, if_pos h0, decide_eq_true h0] at e3
      refine ac_intro tabIs _ Try.func14 rfl rfl Try.ntmps14 rfl rfl fun w0 ok0 => ?_
      repeat (first | refine awp_seq ?_ | refine then_n ?_ | refine then_r ?_ | refine then_x ?_ | refine block_n ?_ | refine block_r ?_ | refine block_x ?_ | refine u_y ?_ | refine loop_r ?_ | refine loop_x ?_ | refine awp_region ?_ | refine awpL_nil ?_ | refine awpQL_nil ?_ | refine awp_block ?_ | refine awp_skip ?_ | refine awp_exit ?_ | refine awp_label ?_ | refine u_dT ?_ | refine u_d ?_ | ((first | apply c_l | apply c_q | apply c_lr | apply c_qr); (iterate 2 exact rfl); (focus (first | exact e1 | exact e2 | exact e3)); (iterate 2 exact rfl)) | (apply v_c; (iterate 4 exact rfl); (focus (first | exact e1 | exact e2 | exact e3)); (iterate 2 exact rfl)) | refine u_l ?_ | refine u_o ?_ | refine u_q ?_ | refine u_lr ?_ | refine u_qr ?_ | refine u_ls ?_ | refine u_qs ?_ | refine u_t ?_ | refine u_f ?_ | refine v_s ?_ | refine v_o ?_ | refine v_on ?_ | refine v_og ?_ | refine v_q ?_ | refine v_sr ?_ | refine v_k ?_ | refine m_nil ?_)
      (refine awp_ret ?_; (repeat (first | refine then_r ?_ | refine block_r ?_ | refine loop_r ?_)); apply ret_ok (.inr rfl); (focus exact rfl))
      rfl
    · rw [if_neg h0]
      rw [if_neg h0, if_neg h0, decide_eq_false h0] at e3
      refine ac_intro tabIs _ Try.func14 rfl rfl Try.ntmps14 rfl rfl fun w0 ok0 => ?_
      repeat (first | refine awp_seq ?_ | refine then_n ?_ | refine then_r ?_ | refine then_x ?_ | refine block_n ?_ | refine block_r ?_ | refine block_x ?_ | refine u_y ?_ | refine loop_r ?_ | refine loop_x ?_ | refine awp_region ?_ | refine awpL_nil ?_ | refine awpQL_nil ?_ | refine awp_block ?_ | refine awp_skip ?_ | refine awp_exit ?_ | refine awp_label ?_ | refine u_dT ?_ | refine u_d ?_ | ((first | apply c_l | apply c_q | apply c_lr | apply c_qr); (iterate 2 exact rfl); (focus (first | exact e1 | exact e2 | exact e3)); (iterate 2 exact rfl)) | (apply v_c; (iterate 4 exact rfl); (focus (first | exact e1 | exact e2 | exact e3)); (iterate 2 exact rfl)) | refine u_l ?_ | refine u_o ?_ | refine u_q ?_ | refine u_lr ?_ | refine u_qr ?_ | refine u_ls ?_ | refine u_qs ?_ | refine u_t ?_ | refine u_f ?_ | refine v_s ?_ | refine v_o ?_ | refine v_on ?_ | refine v_og ?_ | refine v_q ?_ | refine v_sr ?_ | refine v_k ?_ | refine m_nil ?_)
      (refine awp_ret ?_; (repeat (first | refine then_r ?_ | refine block_r ?_ | refine loop_r ?_)); apply ret_ok (.inr rfl); (focus exact rfl))
      rfl
  · rw [if_neg hc]
    refine ac_intro tabIs _ Try.func14 rfl rfl Try.ntmps14 rfl rfl fun w0 ok0 => ?_
    repeat (first | refine awp_seq ?_ | refine then_n ?_ | refine then_r ?_ | refine then_x ?_ | refine block_n ?_ | refine block_r ?_ | refine block_x ?_ | refine u_y ?_ | refine loop_r ?_ | refine loop_x ?_ | refine awp_region ?_ | refine awpL_nil ?_ | refine awpQL_nil ?_ | refine awp_block ?_ | refine awp_skip ?_ | refine awp_exit ?_ | refine awp_label ?_ | refine u_dT ?_ | refine u_d ?_ | ((first | apply c_l | apply c_q | apply c_lr | apply c_qr); (iterate 2 exact rfl); (focus (first | exact e1)); (iterate 2 exact rfl)) | (apply v_c; (iterate 4 exact rfl); (focus (first | exact e1)); (iterate 2 exact rfl)) | refine u_l ?_ | refine u_o ?_ | refine u_q ?_ | refine u_lr ?_ | refine u_qr ?_ | refine u_ls ?_ | refine u_qs ?_ | refine u_t ?_ | refine u_f ?_ | refine v_s ?_ | refine v_o ?_ | refine v_on ?_ | refine v_og ?_ | refine v_q ?_ | refine v_sr ?_ | refine v_k ?_ | refine m_nil ?_)
    (refine awp_ret ?_; (repeat (first | refine then_r ?_ | refine block_r ?_ | refine loop_r ?_)); apply ret_ok (.inr rfl); (focus exact rfl))
    rfl

theorem spec_AdaptiveLetter {s : Int} {nx : List (List Int)} {lp l : List Int} (h : RowsOk nx) (h2 : lp.length ≤ 9223372036854775807) (h3 : l.length ≤ 9223372036854775807) :
    AC Try.prog 17 [.agg [.int .i64 s, rows nx, ints lp], ints l] (.tup [.int .i64 (alD s nx lp l).1, .int .i64 (alD s nx lp l).2]) := by
  have e1 := spec_l08Ok (s := s) (nx := nx) (lp := lp) h h2
  unfold alD
  by_cases hc : adC s nx lp l = 0
  · obtain ⟨v, hv, hr, hm, hp, hb, hl⟩ := adC_facts hc
    have hs := v.s1
    have e2 := spec_l01Set (s := s) (nx := nx) (l := l) hs h3
    rw [hv] at e1
    rw [hr] at e2
    rw [if_pos hc]
    have e3 := spec_depths v
    have e4 := spec_l02Bits (l := l) (fun q hq => by have := hm q hq; omega) h3
    have hel := fnL_el (F := dep s nx lp) hb
    have hdr := dep_range (s := s) (nx := nx) (lp := lp) (f := bitsL 0 l)
    have hpw := pow_le (m := s.toNat) (by omega)
    have e5 := spec_l08Letter (G := dep s nx lp) v hb (by omega)
    generalize bitsL 0 l = f at *
    by_cases h0 : 0 ≤ dep s nx lp f
    · rw [if_pos h0]
      by_cases h1 : dep s nx lp f = 0
      · rw [if_pos h1]
        refine ac_intro tabIs _ Try.func17 rfl rfl Try.ntmps17 rfl rfl fun w0 ok0 => ?_
        repeat (first | refine awp_seq ?_ | refine then_n ?_ | refine then_r ?_ | refine then_x ?_ | refine block_n ?_ | refine block_r ?_ | refine block_x ?_ | refine u_y ?_ | refine loop_r ?_ | refine loop_x ?_ | refine awp_region ?_ | refine awpL_nil ?_ | refine awpQL_nil ?_ | refine awp_block ?_ | refine awp_skip ?_ | refine awp_exit ?_ | refine awp_label ?_ | refine u_dT ?_ | refine u_d ?_ | ((first | apply c_l | apply c_q | apply c_lr | apply c_qr); (iterate 2 exact rfl); (focus (first | exact e1 | exact e2 | exact e3 | exact e4)); (iterate 2 exact rfl)) | (apply v_c; (iterate 4 exact rfl); (focus (first | exact e1 | exact e2 | exact e3 | exact e4)); (iterate 2 exact rfl)) | refine u_l ?_ | refine u_o ?_ | refine u_q ?_ | refine u_lr ?_ | refine u_qr ?_ | refine u_ls ?_ | refine u_qs ?_ | refine u_t ?_ | refine u_f ?_ | refine v_s ?_ | refine v_o ?_ | refine v_on ?_ | refine v_og ?_ | refine v_q ?_ | refine v_sr ?_ | refine v_k ?_ | refine m_nil ?_)
        (refine awp_ret ?_; (repeat (first | refine then_r ?_ | refine block_r ?_ | refine loop_r ?_)); apply ret_ok (.inr rfl); (focus exact rfl))
        rfl
      · rw [if_neg h1]
        rw [(ltr_spec (s := s) (nx := nx) (lp := lp) (f := f) (by omega)).2] at e5
        refine ac_intro tabIs _ Try.func17 rfl rfl Try.ntmps17 rfl rfl fun w0 ok0 => ?_
        repeat (first | refine awp_seq ?_ | refine then_n ?_ | refine then_r ?_ | refine then_x ?_ | refine block_n ?_ | refine block_r ?_ | refine block_x ?_ | refine u_y ?_ | refine loop_r ?_ | refine loop_x ?_ | refine awp_region ?_ | refine awpL_nil ?_ | refine awpQL_nil ?_ | refine awp_block ?_ | refine awp_skip ?_ | refine awp_exit ?_ | refine awp_label ?_ | refine u_dT ?_ | refine u_d ?_ | ((first | apply c_l | apply c_q | apply c_lr | apply c_qr); (iterate 2 exact rfl); (focus (first | exact e1 | exact e2 | exact e3 | exact e4 | exact e5)); (iterate 2 exact rfl)) | (apply v_c; (iterate 4 exact rfl); (focus (first | exact e1 | exact e2 | exact e3 | exact e4 | exact e5)); (iterate 2 exact rfl)) | refine u_l ?_ | refine u_o ?_ | refine u_q ?_ | refine u_lr ?_ | refine u_qr ?_ | refine u_ls ?_ | refine u_qs ?_ | refine u_t ?_ | refine u_f ?_ | refine v_s ?_ | refine v_o ?_ | refine v_on ?_ | refine v_og ?_ | refine v_q ?_ | refine v_sr ?_ | refine v_k ?_ | refine m_nil ?_)
        (refine awp_ret ?_; (repeat (first | refine then_r ?_ | refine block_r ?_ | refine loop_r ?_)); apply ret_ok (.inr rfl); (focus exact rfl))
        rfl
    · rw [if_neg h0]
      refine ac_intro tabIs _ Try.func17 rfl rfl Try.ntmps17 rfl rfl fun w0 ok0 => ?_
      repeat (first | refine awp_seq ?_ | refine then_n ?_ | refine then_r ?_ | refine then_x ?_ | refine block_n ?_ | refine block_r ?_ | refine block_x ?_ | refine u_y ?_ | refine loop_r ?_ | refine loop_x ?_ | refine awp_region ?_ | refine awpL_nil ?_ | refine awpQL_nil ?_ | refine awp_block ?_ | refine awp_skip ?_ | refine awp_exit ?_ | refine awp_label ?_ | refine u_dT ?_ | refine u_d ?_ | ((first | apply c_l | apply c_q | apply c_lr | apply c_qr); (iterate 2 exact rfl); (focus (first | exact e1 | exact e2 | exact e3 | exact e4)); (iterate 2 exact rfl)) | (apply v_c; (iterate 4 exact rfl); (focus (first | exact e1 | exact e2 | exact e3 | exact e4)); (iterate 2 exact rfl)) | refine u_l ?_ | refine u_o ?_ | refine u_q ?_ | refine u_lr ?_ | refine u_qr ?_ | refine u_ls ?_ | refine u_qs ?_ | refine u_t ?_ | refine u_f ?_ | refine v_s ?_ | refine v_o ?_ | refine v_on ?_ | refine v_og ?_ | refine v_q ?_ | refine v_sr ?_ | refine v_k ?_ | refine m_nil ?_)
      (refine awp_ret ?_; (repeat (first | refine then_r ?_ | refine block_r ?_ | refine loop_r ?_)); apply ret_ok (.inr rfl); (focus exact rfl))
      rfl
  · rw [if_neg hc]
    rcases adC_not hc with ⟨hv, ha⟩ | ⟨hv, hr, ha⟩
    · rw [ha]
      rw [hv] at e1
      refine ac_intro tabIs _ Try.func17 rfl rfl Try.ntmps17 rfl rfl fun w0 ok0 => ?_
      repeat (first | refine awp_seq ?_ | refine then_n ?_ | refine then_r ?_ | refine then_x ?_ | refine block_n ?_ | refine block_r ?_ | refine block_x ?_ | refine u_y ?_ | refine loop_r ?_ | refine loop_x ?_ | refine awp_region ?_ | refine awpL_nil ?_ | refine awpQL_nil ?_ | refine awp_block ?_ | refine awp_skip ?_ | refine awp_exit ?_ | refine awp_label ?_ | refine u_dT ?_ | refine u_d ?_ | ((first | apply c_l | apply c_q | apply c_lr | apply c_qr); (iterate 2 exact rfl); (focus (first | exact e1)); (iterate 2 exact rfl)) | (apply v_c; (iterate 4 exact rfl); (focus (first | exact e1)); (iterate 2 exact rfl)) | refine u_l ?_ | refine u_o ?_ | refine u_q ?_ | refine u_lr ?_ | refine u_qr ?_ | refine u_ls ?_ | refine u_qs ?_ | refine u_t ?_ | refine u_f ?_ | refine v_s ?_ | refine v_o ?_ | refine v_on ?_ | refine v_og ?_ | refine v_q ?_ | refine v_sr ?_ | refine v_k ?_ | refine m_nil ?_)
      (refine awp_ret ?_; (repeat (first | refine then_r ?_ | refine block_r ?_ | refine loop_r ?_)); apply ret_ok (.inr rfl); (focus exact rfl))
      rfl
    · rw [ha]
      rw [hv] at e1
      have e2 := spec_l01Set (s := s) (nx := nx) (l := l) (lv_of hv).s1 h3
      rw [hr] at e2
      refine ac_intro tabIs _ Try.func17 rfl rfl Try.ntmps17 rfl rfl fun w0 ok0 => ?_
      repeat (first | refine awp_seq ?_ | refine then_n ?_ | refine then_r ?_ | refine then_x ?_ | refine block_n ?_ | refine block_r ?_ | refine block_x ?_ | refine u_y ?_ | refine loop_r ?_ | refine loop_x ?_ | refine awp_region ?_ | refine awpL_nil ?_ | refine awpQL_nil ?_ | refine awp_block ?_ | refine awp_skip ?_ | refine awp_exit ?_ | refine awp_label ?_ | refine u_dT ?_ | refine u_d ?_ | ((first | apply c_l | apply c_q | apply c_lr | apply c_qr); (iterate 2 exact rfl); (focus (first | exact e1 | exact e2)); (iterate 2 exact rfl)) | (apply v_c; (iterate 4 exact rfl); (focus (first | exact e1 | exact e2)); (iterate 2 exact rfl)) | refine u_l ?_ | refine u_o ?_ | refine u_q ?_ | refine u_lr ?_ | refine u_qr ?_ | refine u_ls ?_ | refine u_qs ?_ | refine u_t ?_ | refine u_f ?_ | refine v_s ?_ | refine v_o ?_ | refine v_on ?_ | refine v_og ?_ | refine v_q ?_ | refine v_sr ?_ | refine v_k ?_ | refine m_nil ?_)
      (refine awp_ret ?_; (repeat (first | refine then_r ?_ | refine block_r ?_ | refine loop_r ?_)); apply ret_ok (.inr rfl); (focus exact rfl))
      rfl

theorem impl_AdaptiveLetter {s : Int} {nx : List (List Int)} {lp l : List Int} (h : RowsOk nx) (h2 : lp.length ≤ 9223372036854775807) (h3 : l.length ≤ 9223372036854775807) :
    AC Try.prog 18 [.agg [.int .i64 s, rows nx, ints lp], ints l] (.tup [.int .i64 (alD s nx lp l).1, .int .i64 (alD s nx lp l).2]) := by
  have e1 := impl_adaptiveCode (s := s) (nx := nx) (lp := lp) (l := l) h h2 h3
  unfold alD
  by_cases hc : adC s nx lp l = 0
  · obtain ⟨v, hv, hr, hm, hp, hb, hl⟩ := adC_facts hc
    have hs := v.s1
    rw [hc] at e1
    rw [if_pos hc]
    have e2 := impl_flockOf (l := l) (fun q hq => by have := hm q hq; omega) h3
    have e3 := impl_adaptive v hb
    generalize bitsL 0 l = f at *
    by_cases h0 : 0 ≤ dep s nx lp f
    · rw [if_pos h0]
      rw [if_pos h0, if_pos h0, decide_eq_true h0] at e3
      by_cases h1 : dep s nx lp f = 0
      · rw [if_pos h1]
        refine ac_intro tabIs _ Try.func18 rfl rfl Try.ntmps18 rfl rfl fun w0 ok0 => ?_
        repeat (first | refine awp_seq ?_ | refine then_n ?_ | refine then_r ?_ | refine then_x ?_ | refine block_n ?_ | refine block_r ?_ | refine block_x ?_ | refine u_y ?_ | refine loop_r ?_ | refine loop_x ?_ | refine awp_region ?_ | refine awpL_nil ?_ | refine awpQL_nil ?_ | refine awp_block ?_ | refine awp_skip ?_ | refine awp_exit ?_ | refine awp_label ?_ | refine u_dT ?_ | refine u_d ?_ | ((first | apply c_l | apply c_q | apply c_lr | apply c_qr); (iterate 2 exact rfl); (focus (first | exact e1 | exact e2 | exact e3)); (iterate 2 exact rfl)) | (apply v_c; (iterate 4 exact rfl); (focus (first | exact e1 | exact e2 | exact e3)); (iterate 2 exact rfl)) | refine u_l ?_ | refine u_o ?_ | refine u_q ?_ | refine u_lr ?_ | refine u_qr ?_ | refine u_ls ?_ | refine u_qs ?_ | refine u_t ?_ | refine u_f ?_ | refine v_s ?_ | refine v_o ?_ | refine v_on ?_ | refine v_og ?_ | refine v_q ?_ | refine v_sr ?_ | refine v_k ?_ | refine m_nil ?_)
        (refine awp_ret ?_; (repeat (first | refine then_r ?_ | refine block_r ?_ | refine loop_r ?_)); apply ret_ok (.inr rfl); (focus exact rfl))
        rfl
      · rw [if_neg h1]
        refine ac_intro tabIs _ Try.func18 rfl rfl Try.ntmps18 rfl rfl fun w0 ok0 => ?_
        repeat (first | refine awp_seq ?_ | refine then_n ?_ | refine then_r ?_ | refine then_x ?_ | refine block_n ?_ | refine block_r ?_ | refine block_x ?_ | refine u_y ?_ | refine loop_r ?_ | refine loop_x ?_ | refine awp_region ?_ | refine awpL_nil ?_ | refine awpQL_nil ?_ | refine awp_block ?_ | refine awp_skip ?_ | refine awp_exit ?_ | refine awp_label ?_ | refine u_dT ?_ | refine u_d ?_ | ((first | apply c_l | apply c_q | apply c_lr | apply c_qr); (iterate 2 exact rfl); (focus (first | exact e1 | exact e2 | exact e3)); (iterate 2 exact rfl)) | (apply v_c; (iterate 4 exact rfl); (focus (first | exact e1 | exact e2 | exact e3)); (iterate 2 exact rfl)) | refine u_l ?_ | refine u_o ?_ | refine u_q ?_ | refine u_lr ?_ | refine u_qr ?_ | refine u_ls ?_ | refine u_qs ?_ | refine u_t ?_ | refine u_f ?_ | refine v_s ?_ | refine v_o ?_ | refine v_on ?_ | refine v_og ?_ | refine v_q ?_ | refine v_sr ?_ | refine v_k ?_ | refine m_nil ?_)
        (refine awp_ret ?_; (repeat (first | refine then_r ?_ | refine block_r ?_ | refine loop_r ?_)); apply ret_ok (.inr rfl); (focus exact rfl))
        rfl
    · rw [if_neg h0]
      rw [if_neg h0, if_neg h0, decide_eq_false h0] at e3
      refine ac_intro tabIs _ Try.func18 rfl rfl Try.ntmps18 rfl rfl fun w0 ok0 => ?_
      repeat (first | refine awp_seq ?_ | refine then_n ?_ | refine then_r ?_ | refine then_x ?_ | refine block_n ?_ | refine block_r ?_ | refine block_x ?_ | refine u_y ?_ | refine loop_r ?_ | refine loop_x ?_ | refine awp_region ?_ | refine awpL_nil ?_ | refine awpQL_nil ?_ | refine awp_block ?_ | refine awp_skip ?_ | refine awp_exit ?_ | refine awp_label ?_ | refine u_dT ?_ | refine u_d ?_ | ((first | apply c_l | apply c_q | apply c_lr | apply c_qr); (iterate 2 exact rfl); (focus (first | exact e1 | exact e2 | exact e3)); (iterate 2 exact rfl)) | (apply v_c; (iterate 4 exact rfl); (focus (first | exact e1 | exact e2 | exact e3)); (iterate 2 exact rfl)) | refine u_l ?_ | refine u_o ?_ | refine u_q ?_ | refine u_lr ?_ | refine u_qr ?_ | refine u_ls ?_ | refine u_qs ?_ | refine u_t ?_ | refine u_f ?_ | refine v_s ?_ | refine v_o ?_ | refine v_on ?_ | refine v_og ?_ | refine v_q ?_ | refine v_sr ?_ | refine v_k ?_ | refine m_nil ?_)
      (refine awp_ret ?_; (repeat (first | refine then_r ?_ | refine block_r ?_ | refine loop_r ?_)); apply ret_ok (.inr rfl); (focus exact rfl))
      rfl
  · rw [if_neg hc]
    refine ac_intro tabIs _ Try.func18 rfl rfl Try.ntmps18 rfl rfl fun w0 ok0 => ?_
    repeat (first | refine awp_seq ?_ | refine then_n ?_ | refine then_r ?_ | refine then_x ?_ | refine block_n ?_ | refine block_r ?_ | refine block_x ?_ | refine u_y ?_ | refine loop_r ?_ | refine loop_x ?_ | refine awp_region ?_ | refine awpL_nil ?_ | refine awpQL_nil ?_ | refine awp_block ?_ | refine awp_skip ?_ | refine awp_exit ?_ | refine awp_label ?_ | refine u_dT ?_ | refine u_d ?_ | ((first | apply c_l | apply c_q | apply c_lr | apply c_qr); (iterate 2 exact rfl); (focus (first | exact e1)); (iterate 2 exact rfl)) | (apply v_c; (iterate 4 exact rfl); (focus (first | exact e1)); (iterate 2 exact rfl)) | refine u_l ?_ | refine u_o ?_ | refine u_q ?_ | refine u_lr ?_ | refine u_qr ?_ | refine u_ls ?_ | refine u_qs ?_ | refine u_t ?_ | refine u_f ?_ | refine v_s ?_ | refine v_o ?_ | refine v_on ?_ | refine v_og ?_ | refine v_q ?_ | refine v_sr ?_ | refine v_k ?_ | refine m_nil ?_)
    (refine awp_ret ?_; (repeat (first | refine then_r ?_ | refine block_r ?_ | refine loop_r ?_)); apply ret_ok (.inr rfl); (focus exact rfl))
    rfl

theorem law_ExactAdaptiveDepth {s : Int} {nx : List (List Int)} {lp l : List Int} (g1 : I64 s) (h1 : RowsOk nx) (h2 : IntsOk lp) (h3 : IntsOk l) :
    AC Try.prog 3 [.agg [.int .i64 s, rows nx, ints lp], ints l] (.bool true) := by
  have hl := h2.2
  have hl3 := h3.2
  have hle : (List.map (D.int IntKind.i64) l).length = l.length := by simp
  have hb : (0 : Int) ≤ 1048576 ∧ (1048576 : Int) ≤ 1048576 := by omega
  by_cases hlen : 1048576 < l.length
  · refine ac_intro tabIs _ Try.func3 rfl rfl Try.ntmps3 rfl rfl fun w0 ok0 => ?_
    repeat (first | refine awp_seq ?_ | refine then_n ?_ | refine then_r ?_ | refine then_x ?_ | refine block_n ?_ | refine block_r ?_ | refine block_x ?_ | refine u_y ?_ | refine loop_r ?_ | refine loop_x ?_ | refine awp_region ?_ | refine awpL_nil ?_ | refine awpQL_nil ?_ | refine awp_block ?_ | refine awp_skip ?_ | refine awp_exit ?_ | refine awp_label ?_ | refine u_dT ?_ | refine u_d ?_ | refine u_l ?_ | refine u_o ?_ | refine u_q ?_ | refine u_lr ?_ | refine u_qr ?_ | refine u_ls ?_ | refine u_qs ?_ | refine u_t ?_ | refine u_f ?_ | refine v_s ?_ | refine v_o ?_ | refine v_on ?_ | refine v_og ?_ | refine v_q ?_ | refine v_sr ?_ | refine v_k ?_ | refine m_nil ?_)
    (refine awp_ret ?_; (repeat (first | refine then_r ?_ | refine block_r ?_ | refine loop_r ?_)); apply ret_ok (.inr rfl); (focus exact rfl))
    rfl
  · have e1 := laws_szLit (s := s) (nx := nx) (lp := lp) (left := 1048576) h1 hl hb
    by_cases hc : szLitF nx lp 1048576 < 0
    · refine ac_intro tabIs _ Try.func3 rfl rfl Try.ntmps3 rfl rfl fun w0 ok0 => ?_
      repeat (first | refine awp_seq ?_ | refine then_n ?_ | refine then_r ?_ | refine then_x ?_ | refine block_n ?_ | refine block_r ?_ | refine block_x ?_ | refine u_y ?_ | refine loop_r ?_ | refine loop_x ?_ | refine awp_region ?_ | refine awpL_nil ?_ | refine awpQL_nil ?_ | refine awp_block ?_ | refine awp_skip ?_ | refine awp_exit ?_ | refine awp_label ?_ | refine u_dT ?_ | refine u_d ?_ | ((first | apply c_l | apply c_q | apply c_lr | apply c_qr); (iterate 2 exact rfl); (focus (first | exact e1)); (iterate 2 exact rfl)) | (apply v_c; (iterate 4 exact rfl); (focus (first | exact e1)); (iterate 2 exact rfl)) | refine u_l ?_ | refine u_o ?_ | refine u_q ?_ | refine u_lr ?_ | refine u_qr ?_ | refine u_ls ?_ | refine u_qs ?_ | refine u_t ?_ | refine u_f ?_ | refine v_s ?_ | refine v_o ?_ | refine v_on ?_ | refine v_og ?_ | refine v_q ?_ | refine v_sr ?_ | refine v_k ?_ | refine m_nil ?_)
      (refine awp_ret ?_; (repeat (first | refine then_r ?_ | refine block_r ?_ | refine loop_r ?_)); apply ret_ok (.inr rfl); (focus exact rfl))
      rfl
    · obtain ⟨a1, a2, a3⟩ := szLitF_ok hc
      have t1 := laws_toLit (s := s) a1 a2 a3
      have t2 := laws_toInt64S (ns := l) (by omega)
      have f1 := spec_AdaptiveDepth (s := s) (nx := nx) (lp := lp) (l := l) h1 hl hl3
      have f2 := impl_AdaptiveDepth (s := s) (nx := nx) (lp := lp) (l := l) h1 hl hl3
      generalize adD s nx lp l = o at *
      have q2 : AC Try.prog 16 [ints l, ints l] (.bool true) := by have := laws_eqInt64S (a := l) (b := l) (by omega) (by omega); simpa using this
      have q3 : AC Try.prog 15 [.agg [.int .i64 s, rows nx, ints lp], .agg [.int .i64 s, rows nx, ints lp]] (.bool true) := by
        have := laws_eqLit (s := s) (s' := s) (nx := nx) (nx' := nx) (lp := lp) (lp' := lp) h1 h1 hl hl
        simpa using this
      refine ac_intro tabIs _ Try.func3 rfl rfl Try.ntmps3 rfl rfl fun w0 ok0 => ?_
      repeat' (first | refine awp_seq ?_ | refine then_n ?_ | refine then_r ?_ | refine then_x ?_ | refine block_n ?_ | refine block_r ?_ | refine block_x ?_ | refine u_y ?_ | refine loop_r ?_ | refine loop_x ?_ | refine awp_region ?_ | refine awpL_nil ?_ | refine awpQL_nil ?_ | refine awp_block ?_ | refine awp_skip ?_ | refine awp_exit ?_ | refine awp_label ?_ | refine u_dT ?_ | refine u_d ?_ | ((first | apply c_l | apply c_q | apply c_lr | apply c_qr); (iterate 2 exact rfl); (focus (first | exact e1 | exact t1 | exact t2 | exact f1 | exact f2 | exact q2 | exact q3)); (iterate 2 exact rfl)) | (apply v_c; (iterate 4 exact rfl); (focus (first | exact e1 | exact t1 | exact t2 | exact f1 | exact f2 | exact q2 | exact q3)); (iterate 2 exact rfl)) | refine u_l ?_ | refine u_o ?_ | refine u_q ?_ | refine u_lr ?_ | refine u_qr ?_ | refine u_ls ?_ | refine u_qs ?_ | refine u_t ?_ | refine u_f ?_ | refine v_s ?_ | refine v_o ?_ | refine v_on ?_ | refine v_og ?_ | refine v_q ?_ | refine v_sr ?_ | refine v_k ?_ | refine m_nil ?_ | ((first | refine u_sl ?_ ?_ | refine u_sq ?_ ?_) <;> (intro hb; try (simp at hb; done))) | (refine u_c ?_ ?_ <;> (intro hc; try (simp at hc; done))) | refine awp_ret ?_ | refine u_r ?_ | refine u_rC ?_)
      all_goals simp_all
theorem law_ExactAdaptiveLetter {s : Int} {nx : List (List Int)} {lp l : List Int} (g1 : I64 s) (h1 : RowsOk nx) (h2 : IntsOk lp) (h3 : IntsOk l) :
    AC Try.prog 4 [.agg [.int .i64 s, rows nx, ints lp], ints l] (.bool true) := by
  have hl := h2.2
  have hl3 := h3.2
  have hle : (List.map (D.int IntKind.i64) l).length = l.length := by simp
  have hb : (0 : Int) ≤ 1048576 ∧ (1048576 : Int) ≤ 1048576 := by omega
  by_cases hlen : 1048576 < l.length
  · refine ac_intro tabIs _ Try.func4 rfl rfl Try.ntmps4 rfl rfl fun w0 ok0 => ?_
    repeat (first | refine awp_seq ?_ | refine then_n ?_ | refine then_r ?_ | refine then_x ?_ | refine block_n ?_ | refine block_r ?_ | refine block_x ?_ | refine u_y ?_ | refine loop_r ?_ | refine loop_x ?_ | refine awp_region ?_ | refine awpL_nil ?_ | refine awpQL_nil ?_ | refine awp_block ?_ | refine awp_skip ?_ | refine awp_exit ?_ | refine awp_label ?_ | refine u_dT ?_ | refine u_d ?_ | refine u_l ?_ | refine u_o ?_ | refine u_q ?_ | refine u_lr ?_ | refine u_qr ?_ | refine u_ls ?_ | refine u_qs ?_ | refine u_t ?_ | refine u_f ?_ | refine v_s ?_ | refine v_o ?_ | refine v_on ?_ | refine v_og ?_ | refine v_q ?_ | refine v_sr ?_ | refine v_k ?_ | refine m_nil ?_)
    (refine awp_ret ?_; (repeat (first | refine then_r ?_ | refine block_r ?_ | refine loop_r ?_)); apply ret_ok (.inr rfl); (focus exact rfl))
    rfl
  · have e1 := laws_szLit (s := s) (nx := nx) (lp := lp) (left := 1048576) h1 hl hb
    by_cases hc : szLitF nx lp 1048576 < 0
    · refine ac_intro tabIs _ Try.func4 rfl rfl Try.ntmps4 rfl rfl fun w0 ok0 => ?_
      repeat (first | refine awp_seq ?_ | refine then_n ?_ | refine then_r ?_ | refine then_x ?_ | refine block_n ?_ | refine block_r ?_ | refine block_x ?_ | refine u_y ?_ | refine loop_r ?_ | refine loop_x ?_ | refine awp_region ?_ | refine awpL_nil ?_ | refine awpQL_nil ?_ | refine awp_block ?_ | refine awp_skip ?_ | refine awp_exit ?_ | refine awp_label ?_ | refine u_dT ?_ | refine u_d ?_ | ((first | apply c_l | apply c_q | apply c_lr | apply c_qr); (iterate 2 exact rfl); (focus (first | exact e1)); (iterate 2 exact rfl)) | (apply v_c; (iterate 4 exact rfl); (focus (first | exact e1)); (iterate 2 exact rfl)) | refine u_l ?_ | refine u_o ?_ | refine u_q ?_ | refine u_lr ?_ | refine u_qr ?_ | refine u_ls ?_ | refine u_qs ?_ | refine u_t ?_ | refine u_f ?_ | refine v_s ?_ | refine v_o ?_ | refine v_on ?_ | refine v_og ?_ | refine v_q ?_ | refine v_sr ?_ | refine v_k ?_ | refine m_nil ?_)
      (refine awp_ret ?_; (repeat (first | refine then_r ?_ | refine block_r ?_ | refine loop_r ?_)); apply ret_ok (.inr rfl); (focus exact rfl))
      rfl
    · obtain ⟨a1, a2, a3⟩ := szLitF_ok hc
      have t1 := laws_toLit (s := s) a1 a2 a3
      have t2 := laws_toInt64S (ns := l) (by omega)
      have f1 := spec_AdaptiveLetter (s := s) (nx := nx) (lp := lp) (l := l) h1 hl hl3
      have f2 := impl_AdaptiveLetter (s := s) (nx := nx) (lp := lp) (l := l) h1 hl hl3
      generalize alD s nx lp l = o at *
      have q2 : AC Try.prog 16 [ints l, ints l] (.bool true) := by have := laws_eqInt64S (a := l) (b := l) (by omega) (by omega); simpa using this
      have q3 : AC Try.prog 15 [.agg [.int .i64 s, rows nx, ints lp], .agg [.int .i64 s, rows nx, ints lp]] (.bool true) := by
        have := laws_eqLit (s := s) (s' := s) (nx := nx) (nx' := nx) (lp := lp) (lp' := lp) h1 h1 hl hl
        simpa using this
      refine ac_intro tabIs _ Try.func4 rfl rfl Try.ntmps4 rfl rfl fun w0 ok0 => ?_
      repeat' (first | refine awp_seq ?_ | refine then_n ?_ | refine then_r ?_ | refine then_x ?_ | refine block_n ?_ | refine block_r ?_ | refine block_x ?_ | refine u_y ?_ | refine loop_r ?_ | refine loop_x ?_ | refine awp_region ?_ | refine awpL_nil ?_ | refine awpQL_nil ?_ | refine awp_block ?_ | refine awp_skip ?_ | refine awp_exit ?_ | refine awp_label ?_ | refine u_dT ?_ | refine u_d ?_ | ((first | apply c_l | apply c_q | apply c_lr | apply c_qr); (iterate 2 exact rfl); (focus (first | exact e1 | exact t1 | exact t2 | exact f1 | exact f2 | exact q2 | exact q3)); (iterate 2 exact rfl)) | (apply v_c; (iterate 4 exact rfl); (focus (first | exact e1 | exact t1 | exact t2 | exact f1 | exact f2 | exact q2 | exact q3)); (iterate 2 exact rfl)) | refine u_l ?_ | refine u_o ?_ | refine u_q ?_ | refine u_lr ?_ | refine u_qr ?_ | refine u_ls ?_ | refine u_qs ?_ | refine u_t ?_ | refine u_f ?_ | refine v_s ?_ | refine v_o ?_ | refine v_on ?_ | refine v_og ?_ | refine v_q ?_ | refine v_sr ?_ | refine v_k ?_ | refine m_nil ?_ | ((first | refine u_sl ?_ ?_ | refine u_sq ?_ ?_) <;> (intro hb; try (simp at hb; done))) | (refine u_c ?_ ?_ <;> (intro hc; try (simp at hc; done))) | refine awp_ret ?_ | refine u_r ?_ | refine u_rC ?_)
      all_goals simp_all

end Go.Proofs.Ytkomkhigcdkpdaa
