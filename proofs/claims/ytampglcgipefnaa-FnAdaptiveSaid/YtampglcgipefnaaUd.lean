/- Adaptive depths: plain facts. No condition. -/
import Derived.Test.YtampglcgipefnaaUc
namespace Go.Proofs.Ytampglcgipefnaa
open Go
attribute [local irreducible] awp awpL awpQL awpQ awpM pWalk Qt AC thenQ blockQ loopQ OpTo
set_option linter.unusedVariables false
set_option linter.unusedSimpArgs false
set_option maxHeartbeats 2000000
attribute [local irreducible] HC HX

section
variable {s : Int} {nx : List (List Int)} {lp : List Int}
def subN (f g : Nat) : Prop := ∀ q ∈ setN f, q ∈ setN g
theorem mem_bel (v : LV s nx lp) {f x y : Nat} (hf : f < 2 ^ s.toNat) (hx : x < nx.length) {q : Int} : q ∈ setN (bel nx lp f x y) ↔ (∃ r ∈ setN f, q = at2 nx x r) ∧ lamp lp q = y := by
  rw [← bel_list v hf hx, List.mem_filter, (imgL_spec nx (setN f) [(x : Int)]).2 q, decide_eq_true_eq]
  exact Iff.rfl
theorem sub_bel (v : LV s nx lp) {f g x y : Nat} (hf : f < 2 ^ s.toNat) (hg : g < 2 ^ s.toNat) (hx : x < nx.length) (h : subN f g) : subN (bel nx lp f x y) (bel nx lp g x y) := fun q hq => by
  obtain ⟨⟨r, hr, e⟩, hl⟩ := (mem_bel v hf hx).1 hq
  exact (mem_bel v hg hx).2 ⟨⟨r, h r hr, e⟩, hl⟩
theorem mem_nfB (v : LV s nx lp) {f x : Nat} (hf : f < 2 ^ s.toNat) (hx : x < nx.length) {q : Int} (h : ∃ r ∈ setN f, q = at2 nx x r) : q ∈ setN (nfB nx f x) := by
  obtain ⟨r, hr, rfl⟩ := h
  have h1 := setN_lt hf hr
  have hs := v.s1
  have h2 := tbl_at v.nx (l := (x : Int)) (q := r) (by omega) (by omega)
  refine mem_setTo.2 ⟨(at2 nx x r).toNat, by omega, ?_, by omega⟩
  unfold nfB
  rw [testBit_bitsL]
  simp only [Nat.zero_testBit, Bool.false_or, List.any_eq_true, decide_eq_true_eq]
  exact ⟨at2 nx x r, List.mem_map_of_mem hr, rfl⟩
theorem sub_nfB (v : LV s nx lp) {f x y : Nat} (hf : f < 2 ^ s.toNat) (hx : x < nx.length) : subN (bel nx lp f x y) (nfB nx f x) := fun q hq => mem_nfB v hf hx ((mem_bel v hf hx).1 hq).1
theorem pw_len : ∀ {l : List Int} {m : List Int}, l.Pairwise (· < ·) → (∀ q ∈ l, q ∈ m) → m.length ≤ 1 → l.length ≤ 1
  | [], _, _, _, _ => by simp
  | [a], _, _, _, _ => by simp
  | a :: b :: l, m, hp, hs, hm => by
    have h1 := hs a (by simp)
    have h2 := hs b (by simp)
    have hab := (List.pairwise_cons.1 hp).1 b (by simp)
    cases m with
    | nil => cases h1
    | cons c m =>
      cases m with
      | nil => simp at h1 h2; omega
      | cons d m => simp at hm
theorem sm_sub {f g : Nat} (hf : f < 1024) (hg : g < 1024) (h : subN f g) (hs : sm g = true) : sm f = true :=
  (len_sm hf).1 (pw_len (setTo_pairwise f 64) h ((len_sm hg).2 hs))
theorem dN_mono (v : LV s nx lp) : ∀ (d : Nat) {f g : Nat}, f < 2 ^ s.toNat → g < 2 ^ s.toNat → subN f g → 0 ≤ dN nx lp d g → 0 ≤ dN nx lp d f
  | 0, f, g, hf, hg, h, h0 => by
    have hs := v.s1
    have hpw := pow_le (m := s.toNat) (by omega)
    have e1 : dN nx lp 0 g = if sm g then 0 else -1 := rfl
    have e2 : dN nx lp 0 f = if sm f then 0 else -1 := rfl
    cases hsg : sm g with
    | false => rw [e1, hsg] at h0; simp at h0
    | true => rw [e2, sm_sub (by omega) (by omega) h hsg]; simp
  | d + 1, f, g, hf, hg, h, h0 => by
    by_cases hfd : 0 ≤ dN nx lp d f
    · have := dv_up (sm := sm) (bel := bel nx lp) (n := nx.length) (L := 4) hfd 1
      show 0 ≤ dv sm (bel nx lp) nx.length 4 (d + 1) f
      rw [this]
      exact hfd
    · by_cases hgd : 0 ≤ dN nx lp d g
      · exact absurd (dN_mono v d hf hg h hgd) hfd
      · obtain ⟨x, hx, hgood⟩ := (new_iff (by omega)).1 h0
        refine (new_iff (by omega)).2 ⟨x, hx, good_iff.2 fun y hy => ?_⟩
        exact dN_mono v d (bel_lt v hf hx) (bel_lt v hg hx) (sub_bel v hf hg hx h) (good_iff.1 hgood y hy)
theorem dep_le {d f : Nat} (hd : d ≤ Classical.choose (still_ex nx lp (List.range (2 ^ s.toNat)))) : 0 ≤ dN nx lp d f ↔ 0 ≤ dep s nx lp f ∧ dep s nx lp f ≤ d := dv_le hd
theorem dep_top {f : Nat} : dep s nx lp f ≤ (Classical.choose (still_ex nx lp (List.range (2 ^ s.toNat))) : Nat) := by
  have := dN_range (nx := nx) (lp := lp) (d := Classical.choose (still_ex nx lp (List.range (2 ^ s.toNat)))) (f := f)
  unfold dep
  omega
/-- A part of a set is not deeper. -/
theorem dep_mono (v : LV s nx lp) {f g : Nat} (hf : f < 2 ^ s.toNat) (hg : g < 2 ^ s.toNat) (h : subN f g) (h0 : 0 ≤ dep s nx lp g) : 0 ≤ dep s nx lp f ∧ dep s nx lp f ≤ dep s nx lp g := by
  have ht := dep_top (s := s) (nx := nx) (lp := lp) (f := g)
  have hd : (dep s nx lp g).toNat ≤ Classical.choose (still_ex nx lp (List.range (2 ^ s.toNat))) := by omega
  have h1 := (dep_le (s := s) (f := g) hd).2 ⟨h0, by omega⟩
  have h2 := dN_mono v _ hf hg h h1
  have h3 := (dep_le (s := s) (f := f) hd).1 h2
  omega
/-- What is known in so many steps is known at the end. -/
theorem dep_of (v : LV s nx lp) {f m : Nat} (hf : f < 2 ^ s.toNat) (h : 0 ≤ dN nx lp m f) : 0 ≤ dep s nx lp f ∧ dep s nx lp f ≤ m := by
  rcases Nat.lt_or_ge (Classical.choose (still_ex nx lp (List.range (2 ^ s.toNat)))) m with hlt | hge
  · have hst := (Classical.choose_spec (still_ex nx lp (List.range (2 ^ s.toNat)))).2.1
    have ht := dep_top (s := s) (nx := nx) (lp := lp) (f := f)
    have := dv_still (sm := sm) (bel := bel nx lp) (n := nx.length) (L := 4) (S := fun f => f < 2 ^ s.toNat) (fun f x y hf hx _ => bel_lt v hf hx) (d := Classical.choose (still_ex nx lp (List.range (2 ^ s.toNat)))) (fun f hf => hst f (List.mem_range.2 hf)) (m - Classical.choose (still_ex nx lp (List.range (2 ^ s.toNat)))) f hf
    rw [show Classical.choose (still_ex nx lp (List.range (2 ^ s.toNat))) + (m - Classical.choose (still_ex nx lp (List.range (2 ^ s.toNat)))) = m by omega] at this
    have e : dep s nx lp f = dN nx lp m f := this.symm
    rw [e]
    rw [e] at ht
    exact ⟨h, by omega⟩
  · exact (dep_le (s := s) hge).1 h
/-- A word that leads the set to one state is not shorter than the depth. -/
theorem word_dN (v : LV s nx lp) : ∀ (w : List Int) {f : Nat}, f < 2 ^ s.toNat → (∀ l ∈ w, 0 ≤ l ∧ l < nx.length) → sm (goF (nfB nx) f w) = true → 0 ≤ dN nx lp w.length f
  | [], f, _, _, h => by
    have e : dN nx lp 0 f = if sm f then 0 else -1 := rfl
    have h : sm f = true := h
    show 0 ≤ dN nx lp 0 f
    rw [e, h]; simp
  | l :: w, f, hf, hw, h => by
    have hl := hw l (List.mem_cons_self ..)
    have hx : l.toNat < nx.length := by omega
    have ih := word_dN v w (nfB_lt v hf hx) (fun x hm => hw x (List.mem_cons_of_mem _ hm)) h
    show 0 ≤ dN nx lp (w.length + 1) f
    by_cases hfd : 0 ≤ dN nx lp w.length f
    · have := dv_up (sm := sm) (bel := bel nx lp) (n := nx.length) (L := 4) hfd 1
      show 0 ≤ dv sm (bel nx lp) nx.length 4 (w.length + 1) f
      rw [this]
      exact hfd
    · exact (new_iff (by omega)).2 ⟨l.toNat, hx, good_iff.2 fun y hy => dN_mono v _ (bel_lt v hf hx) (nfB_lt v hf hx) (sub_nfB v hf hx) ih⟩
theorem wst_max {g : Nat → Int} : ∀ {k : Nat}, wst g k = 0 ∨ ∃ y, y < k ∧ g y = wst g k
  | 0 => .inl rfl
  | k + 1 => by
    show max (wst g k) (g k) = 0 ∨ _
    by_cases h : wst g k ≤ g k
    · exact .inr ⟨k, by omega, by show g k = max (wst g k) (g k); omega⟩
    · rcases wst_max (g := g) (k := k) with h2 | ⟨y, h2, h3⟩
      · exact .inl (by omega)
      · exact .inr ⟨y, by omega, by show g y = max (wst g k) (g k); omega⟩
theorem set_ne {f : Nat} (hf : f < 1024) (h : sm f = false) : ∃ q, q ∈ setN f := by
  have := mt (len_sm hf).1 (by rw [h]; simp)
  cases e : setN f with
  | nil => rw [e] at this; simp at this
  | cons a l => exact ⟨a, List.mem_cons_self ..⟩
/-- Some run needs the depth. -/
theorem run_max (hv : litOk s nx lp = true) : ∀ (k f : Nat), f < 2 ^ s.toNat → 0 ≤ dep s nx lp f → dep s nx lp f ≤ k → (∃ q, q ∈ setN f) → ∃ q ∈ setN f, ∀ out, ((runA s nx lp k f q out).1.length : Int) = out.length + dep s nx lp f
  | k, f, hf, h0, hk, ⟨q0, hq0⟩ => by
    have v := lv_of hv
    have hs := v.s1
    have hpw := pow_le (m := s.toNat) (by omega)
    by_cases hz : dep s nx lp f = 0
    · exact ⟨q0, hq0, fun out => by rw [runA_end hz, hz]; simp⟩
    · cases k with
      | zero => omega
      | succ k =>
        obtain ⟨⟨x, hx1, hx2, hx3⟩, hsec⟩ := ltr_spec (s := s) (nx := nx) (lp := lp) (f := f) (by omega)
        have hfit := fitB_iff.1 hx3
        have hlt := fun y => bel_lt (y := y) v hf hx2
        obtain ⟨d, hd⟩ : ∃ d : Nat, dep s nx lp f = ((d + 1 : Nat) : Int) := ⟨(dep s nx lp f).toNat - 1, by omega⟩
        have hdd : dv sm (bel nx lp) nx.length 4 (Classical.choose (still_ex nx lp (List.range (2 ^ s.toNat)))) f = ((d + 1 : Nat) : Int) := hd
        obtain ⟨-, -, hno⟩ := dv_letter hdd (by omega)
        have e3 : wst (fun y => dep s nx lp (bel nx lp f x y)) 4 = dep s nx lp f - 1 := by
          have h1 : wst (fun y => dep s nx lp (bel nx lp f x y)) 4 < ((d + 1 : Nat) : Int) := wst_lt.2 fun y hy => by rw [← hd]; exact (hfit y hy).2
          have h2 : ¬ wst (fun y => dep s nx lp (bel nx lp f x y)) 4 < (d : Int) := fun hc => by
            clear hdd
            have hno' := hno x hx2
            cases d with
            | zero => have := wst_range (g := fun y => dep s nx lp (bel nx lp f x y)) (k := 4); omega
            | succ e => exact hno' fun y hy => ⟨(hfit y hy).1, wst_lt.1 hc y hy⟩
          omega
        have hstep : ∀ r ∈ setN f, ∀ y : Nat, lamp lp (at2 nx x r) = y → ∀ out, runA s nx lp (k + 1) f r out = runA s nx lp k (bel nx lp f x y) (at2 nx x r) (out ++ [(x : Int)]) := fun r hr y hy out => by
          show (if dep s nx lp f = 0 then (out, r) else _) = _
          rw [if_neg hz, hx1, hy]
          rfl
        have hgo : ∀ y, y < 4 → dep s nx lp (bel nx lp f x y) = dep s nx lp f - 1 → (∃ q, q ∈ setN (bel nx lp f x y)) → ∃ q ∈ setN f, ∀ out, ((runA s nx lp (k + 1) f q out).1.length : Int) = out.length + dep s nx lp f := fun y hy hd hne => by
          obtain ⟨q', hq', hall⟩ := run_max hv k (bel nx lp f x y) (hlt y) (hfit y hy).1 (by omega) hne
          obtain ⟨⟨r, hr, rfl⟩, hl⟩ := (mem_bel v hf hx2).1 hq'
          refine ⟨r, hr, fun out => ?_⟩
          rw [hstep r hr y hl, hall]
          simp
          omega
        rcases wst_max (g := fun y => dep s nx lp (bel nx lp f x y)) (k := 4) with h4 | ⟨y, hy, hg⟩
        · have hq1 := setN_lt hf hq0
          have hat := tbl_at v.nx (l := (x : Int)) (q := q0) (by omega) (by omega)
          have hlm := lamp_rangeB hv hat
          have hy : lamp lp (at2 nx x q0) = ((lamp lp (at2 nx x q0)).toNat : Int) := by omega
          have hne : at2 nx x q0 ∈ setN (bel nx lp f x (lamp lp (at2 nx x q0)).toNat) := (mem_bel v hf hx2).2 ⟨⟨q0, hq0, rfl⟩, hy⟩
          have hf2 := hfit (lamp lp (at2 nx x q0)).toNat (by omega)
          exact hgo _ (by omega) (by omega) ⟨_, hne⟩
        · by_cases h1 : dep s nx lp f - 1 = 0
          · have hq1 := setN_lt hf hq0
            have hat := tbl_at v.nx (l := (x : Int)) (q := q0) (by omega) (by omega)
            have hlm := lamp_rangeB hv hat
            have hy' : lamp lp (at2 nx x q0) = ((lamp lp (at2 nx x q0)).toNat : Int) := by omega
            have hne : at2 nx x q0 ∈ setN (bel nx lp f x (lamp lp (at2 nx x q0)).toNat) := (mem_bel v hf hx2).2 ⟨⟨q0, hq0, rfl⟩, hy'⟩
            have hf2 := hfit (lamp lp (at2 nx x q0)).toNat (by omega)
            exact hgo _ (by omega) (by omega) ⟨_, hne⟩
          · refine hgo y hy (by omega) (set_ne (by have := bel_lt (y := y) v hf hx2; omega) ?_)
            cases e : sm (bel nx lp f x y) with
            | false => rfl
            | true => have := (dep_zero (s := s) (nx := nx) (lp := lp)).2 e; omega
theorem runS_snoc {x : Int} : ∀ (w : List Int) (q : Int), runS nx q (w ++ [x]) = at2 nx x (runS nx q w)
  | [], _ => rfl
  | l :: w, q => runS_snoc w (at2 nx l q)
/-- Where a run ends. -/
theorem run_end (hv : litOk s nx lp = true) {q0 : Int} : ∀ (k f : Nat) (q : Int) (out : List Int), f < 2 ^ s.toNat → (0 ≤ q ∧ q < s) → 0 ≤ dep s nx lp f → dep s nx lp f ≤ k → runS nx q0 out = q → (∀ l ∈ out, 0 ≤ l ∧ l < nx.length) →
    runS nx q0 (runA s nx lp k f q out).1 = (runA s nx lp k f q out).2 ∧ ∀ l ∈ (runA s nx lp k f q out).1, 0 ≤ l ∧ l < nx.length
  | k, f, q, out, hf, hq, h0, hk, hr, hl => by
    by_cases hz : dep s nx lp f = 0
    · rw [runA_end hz]
      exact ⟨hr, hl⟩
    · obtain ⟨x, y, q', st⟩ := stp hv hf hq (by omega)
      have hd := st.d1
      have hx := st.x1
      rw [st.r1 k out hk]
      cases k with
      | zero => omega
      | succ k =>
        refine run_end hv k _ q' _ st.f1 st.q1 hd.1 (by omega) ?_ fun l hm => ?_
        · rw [runS_snoc, hr]; exact st.a1
        · rcases List.mem_append.1 hm with h | h
          · exact hl l h
          · simp at h; subst h; omega
end

theorem laws_a2Map {a : List Int} {n : Int} (hl : (a.length : Int) = n) (hn : n ≤ 1000) (he : ∀ q ∈ a, 0 ≤ q ∧ q < n) : AC Try.prog 19 [ints a, .int .i64 n] (.bool true) := by
  have hla : (List.map (D.int IntKind.i64) a).length = a.length := by simp
  refine ac_intro tabIs _ Try.func19 rfl rfl Try.ntmps19 rfl rfl fun w0 ok0 => ?_
  repeat (first | refine zc ?_ | refine zv ?_)
  refine awp_loop (fun k : Nat => k ≤ a.length) (fun k => [(0, .d (ints a)), (1, .d (.int .i64 n)), (5, .d (.int .i64 k))]) (fun _ => []) (fun k => a.length - k) 0 (by omega) ?_ rfl ?_
  · exact zs
  · intro k hk
    by_cases hlt : k < a.length
    · have hx := el_int hlt
      have hr := he _ (List.getElem_mem hlt)
      generalize a[k] = x at *
      repeat (first | refine zc ?_ | refine zv ?_ | refine zg ?_)
      refine loop_n (k + 1) (by omega) ?_ rfl (by omega)
      exact zs
    · repeat (first | refine zc ?_ | refine zv ?_)
      (refine awp_ret ?_; (repeat (first | refine then_r ?_ | refine block_r ?_ | refine loop_r ?_)); apply ret_ok (.inr rfl); (focus exact rfl))
      rw [hla]
      simp [hl]
theorem impl_action {s : Int} {nx : List (List Int)} {lp w : List Int} (v : LV s nx lp) (hwl : w.length ≤ 400) (hwa : ∀ l ∈ w, 0 ≤ l ∧ l < nx.length) :
    AC Try.prog 51 [.agg [.int .i64 s, rows nx], ints w] (ints ((mk1 0 s.toNat).map fun q => runS nx q w)) := by
  have hs := v.s1
  refine ac_intro tabIs _ Try.func51 rfl rfl Try.ntmps51 rfl rfl fun w0 ok0 => ?_
  repeat (first | refine v_w (t := 7) ?_ | refine zc ?_ | refine u_w (t := 7) ?_ | refine zv ?_)
  refine awp_loop (fun k : Nat => (k : Int) ≤ s) (fun k => [(1, .d (ints w)), (2, .d (.ptr (.agg [.int .i64 s, rows nx]))), (5, .own 7), (9, .d (.int .i64 s)), (10, .d (.int .i64 k))]) (fun k => [(7, .arr 2 1 (((mk1 0 k).map fun q => runS nx q w).map (.int .i64)))]) (fun k => s.toNat - k) 0 (by omega) ?_ rfl ?_
  · exact zs
  · intro k hk
    have hm := mk1_length k 0
    have hml : (((mk1 0 k).map fun q => runS nx q w).map (D.int .i64)).length = k := by simp [hm]
    by_cases hlt : (k : Int) < s
    · have e1 := impl_atW (q0 := (k : Int)) (w := w) v (by omega) (by omega) hwa
      have hst : ((mk1 0 (k + 1)).map fun q => runS nx q w).map (D.int .i64) = ((mk1 0 k).map fun q => runS nx q w).map (D.int .i64) ++ [.int .i64 (runS nx (k : Int) w)] := by rw [mk1_snoc]; simp
      generalize runS nx (k : Int) w = y at *
      repeat (first | refine zc ?_ | ((first | apply c_l | apply c_q | apply c_lr | apply c_qr); (iterate 2 exact rfl); (focus (first | exact e1)); (iterate 2 exact rfl)) | (apply v_c; (iterate 4 exact rfl); (focus (first | exact e1)); (iterate 2 exact rfl)) | refine zv ?_)
      refine loop_n (k + 1) (by omega) ?_ ?_ (by omega)
      · exact zs
      · rw [hst]; (as_aux_lemma => kernel_rfl)
    · have : k = s.toNat := by omega
      subst this
      repeat (first | refine zc ?_ | refine zv ?_)
      (refine awp_ret ?_; (repeat (first | refine then_r ?_ | refine block_r ?_ | refine loop_r ?_)); apply ret_ok (.inr rfl); (focus exact rfl))
      rfl
theorem impl_ActionOf {s : Int} {nx : List (List Int)} {lp w : List Int} (hv : litOk s nx lp = true) (hwl : w.length ≤ 400) (hwa : ∀ l ∈ w, 0 ≤ l ∧ l < nx.length) :
    AC Try.prog 18 [.agg [.int .i64 s, rows nx], ints w] (.tup [ints ((mk1 0 s.toNat).map fun q => runS nx q w), .int .i64 0]) := by
  have v := lv_of hv
  have hs := v.s1
  have hn := v.n1
  have e2 := impl_isWordA (s := s) (nx := nx) (w := w) (by omega) (by omega)
  rw [show wordOk nx.length w = true by simp only [wordOk, allIn, inB, Bool.and_eq_true, List.all_eq_true, decide_eq_true_eq]; exact ⟨by omega, fun x hx => by have := hwa x hx; omega⟩] at e2
  have e3 : AC Try.prog 49 [.ptr (.agg [.int .i64 s, rows nx]), .ptr (ints w)] (.bool true) := by
    refine ac_intro tabIs _ Try.func49 rfl rfl Try.ntmps49 rfl rfl fun w0 ok0 => ?_
    repeat (first | refine zc ?_ | ((first | apply c_l | apply c_q | apply c_lr | apply c_qr); (iterate 2 exact rfl); (focus (first | exact e2)); (iterate 2 exact rfl)) | (apply v_c; (iterate 4 exact rfl); (focus (first | exact e2)); (iterate 2 exact rfl)) | refine zv ?_ | refine zg ?_)
    (refine awp_ret ?_; (repeat (first | refine then_r ?_ | refine block_r ?_ | refine loop_r ?_)); apply ret_ok (.inr rfl); (focus exact rfl))
    rfl
  have e4 := impl_codeA (s := s) (nx := nx) (rowsOkL v) (autoOk_of hv) e3
  have e5 := impl_action v (w := w) (by omega) hwa
  refine ac_intro tabIs _ Try.func18 rfl rfl Try.ntmps18 rfl rfl fun w0 ok0 => ?_
  repeat (first | refine zc ?_ | ((first | apply c_l | apply c_q | apply c_lr | apply c_qr); (iterate 2 exact rfl); (focus (first | exact e4 | exact e5)); (iterate 2 exact rfl)) | (apply v_c; (iterate 4 exact rfl); (focus (first | exact e4 | exact e5)); (iterate 2 exact rfl)) | refine zv ?_)
  (refine awp_ret ?_; (repeat (first | refine then_r ?_ | refine block_r ?_ | refine loop_r ?_)); apply ret_ok (.inr rfl); (focus exact rfl))
  rfl
end Go.Proofs.Ytampglcgipefnaa
