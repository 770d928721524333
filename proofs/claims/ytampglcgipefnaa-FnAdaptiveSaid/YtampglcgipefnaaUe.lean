/- The law of adaptive runs. No condition. -/
import Derived.Test.YtampglcgipefnaaUd
import Derived.Test.YtampglcgipefnaaDj
import Derived.Test.YtampglcgipefnaaFwY
namespace Go.Proofs.Ytampglcgipefnaa
open Go
attribute [local irreducible] awp awpL awpQL awpQ awpM pWalk Qt AC thenQ blockQ loopQ OpTo
set_option linter.unusedVariables false
set_option linter.unusedSimpArgs false
set_option maxHeartbeats 2000000
attribute [local irreducible] HC HX

section
variable {s : Int} {nx : List (List Int)} {lp : List Int}
noncomputable def rlF (s : Int) (nx : List (List Int)) (lp : List Int) (f : Nat) (q : Int) : Nat := (runA s nx lp (dep s nx lp f).toNat f q []).1.length
noncomputable def mxF (s : Int) (nx : List (List Int)) (lp : List Int) (f : Nat) (l : List Int) : Nat := l.foldl (fun m q => max m (rlF s nx lp f q)) 0
theorem mxF_snoc {f : Nat} {l : List Int} {q : Int} : mxF s nx lp f (l ++ [q]) = max (mxF s nx lp f l) (rlF s nx lp f q) := by simp [mxF]
theorem rlF_le {f : Nat} {q : Int} (h0 : 0 ≤ dep s nx lp f) : (rlF s nx lp f q : Int) ≤ dep s nx lp f := by
  have := runA_len (s := s) (nx := nx) (lp := lp) (dep s nx lp f).toNat f q []
  unfold rlF
  simp only [List.length_nil] at this
  omega
theorem foldmax_le {g : Int → Nat} {d : Int} : ∀ (l : List Int) (m : Nat), (m : Int) ≤ d → (∀ q ∈ l, (g q : Int) ≤ d) → ((l.foldl (fun m q => max m (g q)) m : Nat) : Int) ≤ d
  | [], m, h, _ => h
  | q :: l, m, h, hq => foldmax_le l _ (by have := hq q (List.mem_cons_self ..); show ((max m (g q) : Nat) : Int) ≤ d; omega) fun x hx => hq x (List.mem_cons_of_mem _ hx)
theorem foldmax_init {g : Int → Nat} : ∀ (l : List Int) (m : Nat), m ≤ l.foldl (fun m q => max m (g q)) m
  | [], m => Nat.le_refl _
  | q :: l, m => Nat.le_trans (Nat.le_max_left _ _) (foldmax_init l _)
theorem foldmax_ge {g : Int → Nat} {q : Int} : ∀ (l : List Int) (m : Nat), q ∈ l → g q ≤ l.foldl (fun m q => max m (g q)) m
  | x :: l, m, h => by
    rcases List.mem_cons.1 h with rfl | h
    · exact Nat.le_trans (Nat.le_max_right _ _) (foldmax_init l _)
    · exact foldmax_ge l _ h
theorem mxF_le {f : Nat} (h0 : 0 ≤ dep s nx lp f) (l : List Int) : (mxF s nx lp f l : Int) ≤ dep s nx lp f := foldmax_le l 0 h0 fun q _ => rlF_le h0
theorem mxF_ge {f : Nat} {q : Int} (l : List Int) (h : q ∈ l) : rlF s nx lp f q ≤ mxF s nx lp f l := foldmax_ge l 0 h
/-- The greatest of all runs is the depth. -/
theorem mxF_all (hv : litOk s nx lp = true) {f : Nat} {l : List Int} (hf : f < 2 ^ s.toNat) (hl : setN f = l) (h0 : 0 ≤ dep s nx lp f) (hn : 0 < l.length) : (mxF s nx lp f l : Int) = dep s nx lp f := by
  obtain ⟨q, hq, hall⟩ := run_max hv (dep s nx lp f).toNat f hf h0 (by omega) (by rw [hl]; cases l with | nil => simp at hn | cons a l => exact ⟨a, List.mem_cons_self ..⟩)
  have h1 := mxF_le h0 l
  rw [hl] at hq
  have h2 := mxF_ge (s := s) (nx := nx) (lp := lp) (f := f) l hq
  have h3 := hall []
  unfold rlF at h2
  simp only [List.length_nil] at h3
  omega
theorem adC_of (hv : litOk s nx lp = true) {l : List Int} (h1 : ∀ q ∈ l, 0 ≤ q ∧ q < s) (h2 : l.Pairwise (· < ·)) : adC s nx lp l = 0 := by
  unfold adC
  rw [if_pos hv, if_pos (risB_of (fun q hq => by have := h1 q hq; omega) h2)]
end

theorem law_FnAdaptive {code more : List Int} (hb : BytesOk code) (hm : BytesOk more) : AC Try.prog 4 [u8s code, u8s more] (.bool true) := by
  have eL := laws_a2Long (a := code) (b := more)
  by_cases hl : (decide (3000 < code.length) || decide (3000 < more.length)) = true
  · rw [hl] at eL
    refine ac_intro tabIs _ Try.func4 rfl rfl Try.ntmps4 rfl rfl fun w0 ok0 => ?_
    repeat (first | refine zc ?_ | ((first | apply c_l | apply c_q | apply c_lr | apply c_qr); (iterate 2 exact rfl); (focus (first | exact eL)); (iterate 2 exact rfl)) | (apply v_c; (iterate 4 exact rfl); (focus (first | exact eL)); (iterate 2 exact rfl)) | refine zv ?_)
    (refine awp_ret ?_; (repeat (first | refine then_r ?_ | refine block_r ?_ | refine loop_r ?_)); apply ret_ok (.inr rfl); (focus exact rfl))
    rfl
  · rw [Bool.not_eq_true] at hl
    rw [hl] at eL
    have eA := spec_A2Lit hb
    have hv := drawn_ok hb
    have hs5 := (drA_ok (s := ⟨0, 0⟩) hb).1.2
    generalize (drA code ⟨0, 0⟩).1 = s at *
    generalize (drA code ⟨0, 0⟩).2.1 = nx at *
    generalize (drP code ⟨0, 0⟩).1 = lp at *
    have v := lv_of hv
    have hs := v.s1
    have hn := v.n1
    have hlp := v.lp
    have hpw5 : 2 ^ s.toNat ≤ 32 := (show 2 ^ s.toNat ≤ 2 ^ 5 from Nat.pow_le_pow_right (by omega) (by omega))
    have eS := spec_A2Set (code := more) (s := s) (nx := nx) hm (by omega)
    obtain ⟨s1, s2, s3⟩ := stK_el (code := more) s.toNat
    have s1 : ∀ q ∈ (stK more s.toNat).1, 0 ≤ q ∧ q < s := fun q hq => by have := s1 q hq; omega
    generalize (stK more s.toNat).1 = set at *
    have hset : setN (bitsL 0 set) = set := setN_bits (fun q hq => by have := s1 q hq; omega) s2
    have hf : bitsL 0 set < 2 ^ s.toNat := bits_lt _ _ (Nat.two_pow_pos _) fun q hq => by have := s1 q hq; omega
    have hac := adC_of (nx := nx) (lp := lp) hv s1 s2
    have e1 := spec_AdaptiveDepth (s := s) (nx := nx) (lp := lp) (l := set) (rowsOkL v) (by omega) (by omega)
    have e2 := impl_AdaptiveDepth (s := s) (nx := nx) (lp := lp) (l := set) (rowsOkL v) (by omega) (by omega)
    unfold adD at e1 e2
    rw [if_pos hac] at e1 e2
    have hdr := dep_range (s := s) (nx := nx) (lp := lp) (f := bitsL 0 set)
    have hSF := impl_ShortestFor (nx := nx) (lp := lp) hv s1 s2
    by_cases hd : 0 ≤ dep s nx lp (bitsL 0 set)
    · rw [if_pos hd] at e1 e2
      have hwd : ∀ w : List Int, (∀ x ∈ w, 0 ≤ x ∧ x < nx.length) → sm (goF (nfB nx) (bitsL 0 set) w) = true → dep s nx lp (bitsL 0 set) ≤ w.length := fun w h1 h2 => (dep_of v hf (word_dN v w hf h1 h2)).2
      have hrun : ∀ q ∈ set, AC Try.prog 17 [.agg [.int .i64 s, rows nx, ints lp], ints set, .int .i64 q] (.tup [ints (runA s nx lp (dep s nx lp (bitsL 0 set)).toNat (bitsL 0 set) q []).1, .int .i64 (runA s nx lp (dep s nx lp (bitsL 0 set)).toNat (bitsL 0 set) q []).2, .int .i64 0]) := fun q hq => by
        have := impl_AdaptiveRunH (s := s) (q := q) (nx := nx) (lp := lp) (l := set) (rowsOkL v) (by omega) (by omega)
        unfold rnD at this
        rw [if_pos hac, if_pos hq, if_pos hd] at this
        exact ac_of_hc this rfl
      have hre : ∀ q ∈ set, runS nx q (runA s nx lp (dep s nx lp (bitsL 0 set)).toNat (bitsL 0 set) q []).1 = (runA s nx lp (dep s nx lp (bitsL 0 set)).toNat (bitsL 0 set) q []).2 ∧ ∀ l ∈ (runA s nx lp (dep s nx lp (bitsL 0 set)).toNat (bitsL 0 set) q []).1, 0 ≤ l ∧ l < nx.length :=
        fun q hq => run_end hv _ _ q [] hf (s1 q hq) hd (by omega) rfl (fun l hl => by cases hl)
      have hpart : 1 < set.length → AC Try.prog 15 [.agg [.int .i64 s, rows nx, ints lp], .lst ((set.map (.int .i64)).drop (1 : Int).toNat)] (.tup [.int .i64 (dep s nx lp (bitsL 0 (set.drop 1))), .int .i64 0]) ∧ dep s nx lp (bitsL 0 (set.drop 1)) ≤ dep s nx lp (bitsL 0 set) := fun hgt => by
        have p1 : ∀ q ∈ set.drop 1, 0 ≤ q ∧ q < s := fun q hq => s1 q (List.mem_of_mem_drop hq)
        have p2 : (set.drop 1).Pairwise (· < ·) := s2.sublist (List.drop_sublist ..)
        have p3 : setN (bitsL 0 (set.drop 1)) = set.drop 1 := setN_bits (fun q hq => by have := p1 q hq; omega) p2
        have pf : bitsL 0 (set.drop 1) < 2 ^ s.toNat := bits_lt _ _ (Nat.two_pow_pos _) fun q hq => by have := p1 q hq; omega
        have pm := dep_mono v (f := bitsL 0 (set.drop 1)) (g := bitsL 0 set) pf hf (fun q hq => by rw [p3] at hq; rw [hset]; exact List.mem_of_mem_drop hq) hd
        have := impl_AdaptiveDepth (s := s) (nx := nx) (lp := lp) (l := set.drop 1) (rowsOkL v) (by omega) (by rw [List.length_drop]; omega)
        unfold adD at this
        rw [if_pos (adC_of (nx := nx) (lp := lp) hv p1 p2), if_pos pm.1] at this
        unfold ints at this
        rw [List.map_drop] at this
        exact ⟨this, pm.2⟩
      have hlet : 1 < set.length → AC Try.prog 20 [.agg [.int .i64 s, rows nx, ints lp], ints set] (.tup [.int .i64 (ltr s nx lp (bitsL 0 set)), .int .i64 0]) ∧ 0 ≤ ltr s nx lp (bitsL 0 set) ∧ ltr s nx lp (bitsL 0 set) < nx.length := fun hgt => by
        have hnz : ¬ dep s nx lp (bitsL 0 set) = 0 := fun h => by
          have := (len_sm (f := bitsL 0 set) (by omega)).2 (dep_zero.1 h)
          rw [hset] at this
          omega
        obtain ⟨⟨x, h1, h2, -⟩, -⟩ := ltr_spec (s := s) (nx := nx) (lp := lp) (f := bitsL 0 set) (by omega)
        have := impl_AdaptiveLetter (s := s) (nx := nx) (lp := lp) (l := set) (rowsOkL v) (by omega) (by omega)
        unfold alD at this
        rw [if_pos hac, if_pos hd, if_neg hnz] at this
        exact ⟨this, by omega, by omega⟩
      have hmx := fun h => mxF_all hv hf hset hd h
      generalize bitsL 0 set = f at *
      have hsm : (set.map (D.int .i64)).length = set.length := by simp
      have hnm : (nx.map ints).length = nx.length := by simp
      have hel := elsOk_ints set
      -- the loop over the set's states
      have hgo : ∀ (w : SV) (c : Int), True := fun _ _ => trivial
      have hq13 : ∀ k : Nat, (mxF s nx lp f (set.take k) : Int) ≤ 32 := fun k => by have := mxF_le hd (set.take k); omega
      rcases hSF with hsf | ⟨w, hsf, hwl, hwa, hws⟩
      · unfold ltD at *
        refine ac_intro tabIs _ Try.func4 rfl rfl Try.ntmps4 rfl rfl fun w0 ok0 => ?_
        repeat (first | refine zc ?_ | ((first | apply c_l | apply c_q | apply c_lr | apply c_qr); (iterate 2 exact rfl); (focus (first | exact eL | exact eA | exact eS | exact e1 | exact e2 | exact hsf)); (iterate 2 exact rfl)) | (apply v_c; (iterate 4 exact rfl); (focus (first | exact eL | exact eA | exact eS | exact e1 | exact e2 | exact hsf)); (iterate 2 exact rfl)) | refine zv ?_ | refine zg ?_)
        refine awp_loop (fun k : Nat => k ≤ set.length) (fun k => [(5, .ref 5 0), (6, .d (ints set)), (9, .d (.int .i64 (dep s nx lp f))), (13, .d (.int .i64 (mxF s nx lp f (set.take k) : Nat))), (14, .d (.int .i64 k))]) (fun _ => [(5, .box [.d (.int .i64 s), .d (rows nx), .d (ints lp)])]) (fun k => set.length - k) 0 (by omega) ?_ rfl ?_
        · exact zs
        · intro k hk
          have hmk := hq13 k
          by_cases hlt : k < set.length
          · have hx := el_int hlt
            have hqm : set[k] ∈ set := List.getElem_mem hlt
            have hqr := s1 _ hqm
            have r1 := hrun _ hqm
            obtain ⟨r2, r3⟩ := hre _ hqm
            have hst : mxF s nx lp f (set.take (k + 1)) = max (mxF s nx lp f (set.take k)) (rlF s nx lp f set[k]) := by rw [List.take_succ_eq_append_getElem hlt, mxF_snoc]
            have hrl := rlF_le (q := set[k]) hd
            have hrle : rlF s nx lp f set[k] = (runA s nx lp (dep s nx lp f).toNat f set[k] []).1.length := rfl
            generalize runA s nx lp (dep s nx lp f).toNat f set[k] [] = R at *
            generalize set[k] = q at *
            have r4 := impl_ActionOf (w := R.1) hv (by omega) r3
            have hal : ((mk1 0 s.toNat).map fun q => runS nx q R.1).length = s.toNat := by rw [List.length_map, mk1_length]
            have r5 := laws_a2Map (a := (mk1 0 s.toNat).map fun q => runS nx q R.1) (n := s) (by omega) (by omega) fun y hy => by
              obtain ⟨z, hz, rfl⟩ := List.mem_map.1 hy
              have := (mem_mk1 _ _ z).1 hz
              exact runS_range v.nx _ (by omega) r3
            have hxa : (((mk1 0 s.toNat).map fun q => runS nx q R.1).map (D.int .i64))[q.toNat]? = some (.int .i64 R.2) := by
              have h1 := mk1_get s.toNat 0 q.toNat (by omega)
              rw [List.getElem?_map, List.getElem?_map, h1]
              simp only [Option.map_some]
              rw [show (0 : Int) + q.toNat = q by omega, r2]
            have ham : (((mk1 0 s.toNat).map fun q => runS nx q R.1).map (D.int .i64)).length = s.toNat := by rw [List.length_map, hal]
            generalize (mk1 0 s.toNat).map (fun q => runS nx q R.1) = act at *
            have hRm : (R.1.map (D.int .i64)).length = R.1.length := by simp
            generalize mxF s nx lp f (set.take k) = mk at *
            by_cases hgt : (mk : Int) < (R.1.map (D.int .i64)).length
            · have hst2 : ((mxF s nx lp f (set.take (k + 1)) : Nat) : Int) = ((R.1.map (D.int .i64)).length : Nat) := by rw [hst]; omega
              repeat (first | refine zc ?_ | ((first | apply c_l | apply c_q | apply c_lr | apply c_qr); (iterate 2 exact rfl); (focus (first | exact r1 | exact r4 | exact r5)); (iterate 2 exact rfl)) | (apply v_c; (iterate 4 exact rfl); (focus (first | exact r1 | exact r4 | exact r5)); (iterate 2 exact rfl)) | refine zv ?_ | refine zg ?_)
              refine loop_n (k + 1) (by omega) ?_ rfl (by omega)
              rw [hst2]
              exact zs
            · have hst2 : ((mxF s nx lp f (set.take (k + 1)) : Nat) : Int) = (mk : Nat) := by rw [hst]; omega
              repeat (first | refine zc ?_ | ((first | apply c_l | apply c_q | apply c_lr | apply c_qr); (iterate 2 exact rfl); (focus (first | exact r1 | exact r4 | exact r5)); (iterate 2 exact rfl)) | (apply v_c; (iterate 4 exact rfl); (focus (first | exact r1 | exact r4 | exact r5)); (iterate 2 exact rfl)) | refine zv ?_ | refine zg ?_)
              refine loop_n (k + 1) (by omega) ?_ rfl (by omega)
              rw [hst2]
              exact zs
          · have hk2 : k = set.length := by omega
            subst hk2
            rw [List.take_length] at hmk ⊢
            by_cases h0 : 0 < set.length
            · rw [hmx h0]
              by_cases hgt : 1 < set.length
              · obtain ⟨r1, r2⟩ := hpart hgt
                obtain ⟨r3, r4, r5⟩ := hlet hgt
                generalize dep s nx lp (bitsL 0 (set.drop 1)) = pd at *
                generalize ltr s nx lp f = lt at *
                repeat (first | refine zc ?_ | ((first | apply x_l | apply x_q | apply x_lr | apply x_qr); (focus (first | (apply qa_slice_l; (iterate 8 (focus (first | exact rfl | (first | assumption | omega | (simp; omega) | (simp; done) | rfl))))))); exact rfl) | ((first | apply c_l | apply c_q | apply c_lr | apply c_qr); (iterate 2 exact rfl); (focus (first | exact r1 | exact r3)); (iterate 2 exact rfl)) | (apply v_x; (iterate 2 exact rfl); (focus (intro ok0 nw hle; (first | (apply qa_slice_l; (iterate 8 (focus (first | exact rfl | (first | assumption | omega | (simp; omega) | (simp; done) | rfl)))))))); (iterate 2 exact rfl)) | (apply v_c; (iterate 4 exact rfl); (focus (first | exact r1 | exact r3)); (iterate 2 exact rfl)) | refine zv ?_ | refine zg ?_)
                (refine awp_ret ?_; (repeat (first | refine then_r ?_ | refine block_r ?_ | refine loop_r ?_)); apply ret_ok (.inr rfl); (focus exact rfl))
                rfl
              · repeat (first | refine zc ?_ | refine zv ?_ | refine zg ?_)
                (refine awp_ret ?_; (repeat (first | refine then_r ?_ | refine block_r ?_ | refine loop_r ?_)); apply ret_ok (.inr rfl); (focus exact rfl))
                rfl
            · have hgt : ¬ 1 < set.length := by omega
              have hz0 : dep s nx lp f = 0 := dep_zero.2 ((len_sm (by omega)).1 (by rw [hset]; omega))
              have hm0 : (mxF s nx lp f set : Int) = dep s nx lp f := by have := mxF_le hd set; omega
              rw [hm0]
              repeat (first | refine zc ?_ | refine zv ?_ | refine zg ?_)
              (refine awp_ret ?_; (repeat (first | refine then_r ?_ | refine block_r ?_ | refine loop_r ?_)); apply ret_ok (.inr rfl); (focus exact rfl))
              rfl
      · have hww := hwd w hwa hws
        have hwm : (w.map (D.int .i64)).length = w.length := by simp
        unfold ltD at *
        refine ac_intro tabIs _ Try.func4 rfl rfl Try.ntmps4 rfl rfl fun w0 ok0 => ?_
        repeat (first | refine zc ?_ | ((first | apply c_l | apply c_q | apply c_lr | apply c_qr); (iterate 2 exact rfl); (focus (first | exact eL | exact eA | exact eS | exact e1 | exact e2 | exact hsf)); (iterate 2 exact rfl)) | (apply v_c; (iterate 4 exact rfl); (focus (first | exact eL | exact eA | exact eS | exact e1 | exact e2 | exact hsf)); (iterate 2 exact rfl)) | refine zv ?_ | refine zg ?_)
        refine awp_loop (fun k : Nat => k ≤ set.length) (fun k => [(5, .ref 5 0), (6, .d (ints set)), (9, .d (.int .i64 (dep s nx lp f))), (13, .d (.int .i64 (mxF s nx lp f (set.take k) : Nat))), (14, .d (.int .i64 k))]) (fun _ => [(5, .box [.d (.int .i64 s), .d (rows nx), .d (ints lp)])]) (fun k => set.length - k) 0 (by omega) ?_ rfl ?_
        · exact zs
        · intro k hk
          have hmk := hq13 k
          by_cases hlt : k < set.length
          · have hx := el_int hlt
            have hqm : set[k] ∈ set := List.getElem_mem hlt
            have hqr := s1 _ hqm
            have r1 := hrun _ hqm
            obtain ⟨r2, r3⟩ := hre _ hqm
            have hst : mxF s nx lp f (set.take (k + 1)) = max (mxF s nx lp f (set.take k)) (rlF s nx lp f set[k]) := by rw [List.take_succ_eq_append_getElem hlt, mxF_snoc]
            have hrl := rlF_le (q := set[k]) hd
            have hrle : rlF s nx lp f set[k] = (runA s nx lp (dep s nx lp f).toNat f set[k] []).1.length := rfl
            generalize runA s nx lp (dep s nx lp f).toNat f set[k] [] = R at *
            generalize set[k] = q at *
            have r4 := impl_ActionOf (w := R.1) hv (by omega) r3
            have hal : ((mk1 0 s.toNat).map fun q => runS nx q R.1).length = s.toNat := by rw [List.length_map, mk1_length]
            have r5 := laws_a2Map (a := (mk1 0 s.toNat).map fun q => runS nx q R.1) (n := s) (by omega) (by omega) fun y hy => by
              obtain ⟨z, hz, rfl⟩ := List.mem_map.1 hy
              have := (mem_mk1 _ _ z).1 hz
              exact runS_range v.nx _ (by omega) r3
            have hxa : (((mk1 0 s.toNat).map fun q => runS nx q R.1).map (D.int .i64))[q.toNat]? = some (.int .i64 R.2) := by
              have h1 := mk1_get s.toNat 0 q.toNat (by omega)
              rw [List.getElem?_map, List.getElem?_map, h1]
              simp only [Option.map_some]
              rw [show (0 : Int) + q.toNat = q by omega, r2]
            have ham : (((mk1 0 s.toNat).map fun q => runS nx q R.1).map (D.int .i64)).length = s.toNat := by rw [List.length_map, hal]
            generalize (mk1 0 s.toNat).map (fun q => runS nx q R.1) = act at *
            have hRm : (R.1.map (D.int .i64)).length = R.1.length := by simp
            generalize mxF s nx lp f (set.take k) = mk at *
            by_cases hgt : (mk : Int) < (R.1.map (D.int .i64)).length
            · have hst2 : ((mxF s nx lp f (set.take (k + 1)) : Nat) : Int) = ((R.1.map (D.int .i64)).length : Nat) := by rw [hst]; omega
              repeat (first | refine zc ?_ | ((first | apply c_l | apply c_q | apply c_lr | apply c_qr); (iterate 2 exact rfl); (focus (first | exact r1 | exact r4 | exact r5)); (iterate 2 exact rfl)) | (apply v_c; (iterate 4 exact rfl); (focus (first | exact r1 | exact r4 | exact r5)); (iterate 2 exact rfl)) | refine zv ?_ | refine zg ?_)
              refine loop_n (k + 1) (by omega) ?_ rfl (by omega)
              rw [hst2]
              exact zs
            · have hst2 : ((mxF s nx lp f (set.take (k + 1)) : Nat) : Int) = (mk : Nat) := by rw [hst]; omega
              repeat (first | refine zc ?_ | ((first | apply c_l | apply c_q | apply c_lr | apply c_qr); (iterate 2 exact rfl); (focus (first | exact r1 | exact r4 | exact r5)); (iterate 2 exact rfl)) | (apply v_c; (iterate 4 exact rfl); (focus (first | exact r1 | exact r4 | exact r5)); (iterate 2 exact rfl)) | refine zv ?_ | refine zg ?_)
              refine loop_n (k + 1) (by omega) ?_ rfl (by omega)
              rw [hst2]
              exact zs
          · have hk2 : k = set.length := by omega
            subst hk2
            rw [List.take_length] at hmk ⊢
            by_cases h0 : 0 < set.length
            · rw [hmx h0]
              by_cases hgt : 1 < set.length
              · obtain ⟨r1, r2⟩ := hpart hgt
                obtain ⟨r3, r4, r5⟩ := hlet hgt
                generalize dep s nx lp (bitsL 0 (set.drop 1)) = pd at *
                generalize ltr s nx lp f = lt at *
                repeat (first | refine zc ?_ | ((first | apply x_l | apply x_q | apply x_lr | apply x_qr); (focus (first | (apply qa_slice_l; (iterate 8 (focus (first | exact rfl | (first | assumption | omega | (simp; omega) | (simp; done) | rfl))))))); exact rfl) | ((first | apply c_l | apply c_q | apply c_lr | apply c_qr); (iterate 2 exact rfl); (focus (first | exact r1 | exact r3)); (iterate 2 exact rfl)) | (apply v_x; (iterate 2 exact rfl); (focus (intro ok0 nw hle; (first | (apply qa_slice_l; (iterate 8 (focus (first | exact rfl | (first | assumption | omega | (simp; omega) | (simp; done) | rfl)))))))); (iterate 2 exact rfl)) | (apply v_c; (iterate 4 exact rfl); (focus (first | exact r1 | exact r3)); (iterate 2 exact rfl)) | refine zv ?_ | refine zg ?_)
                (refine awp_ret ?_; (repeat (first | refine then_r ?_ | refine block_r ?_ | refine loop_r ?_)); apply ret_ok (.inr rfl); (focus exact rfl))
                rfl
              · repeat (first | refine zc ?_ | refine zv ?_ | refine zg ?_)
                (refine awp_ret ?_; (repeat (first | refine then_r ?_ | refine block_r ?_ | refine loop_r ?_)); apply ret_ok (.inr rfl); (focus exact rfl))
                rfl
            · have hgt : ¬ 1 < set.length := by omega
              have hz0 : dep s nx lp f = 0 := dep_zero.2 ((len_sm (by omega)).1 (by rw [hset]; omega))
              have hm0 : (mxF s nx lp f set : Int) = dep s nx lp f := by have := mxF_le hd set; omega
              rw [hm0]
              repeat (first | refine zc ?_ | refine zv ?_ | refine zg ?_)
              (refine awp_ret ?_; (repeat (first | refine then_r ?_ | refine block_r ?_ | refine loop_r ?_)); apply ret_ok (.inr rfl); (focus exact rfl))
              rfl
    · rw [if_neg hd] at e1 e2
      have hsf : AC Try.prog 16 [.agg [.int .i64 s, rows nx], ints set] (.tup [.nils, .int .i64 6]) := by
        rcases hSF with h | ⟨w, h, _, h2, h3⟩
        · exact h
        · exact absurd (dep_of v hf (word_dN v w hf h2 h3)).1 hd
      unfold ltD at *
      refine ac_intro tabIs _ Try.func4 rfl rfl Try.ntmps4 rfl rfl fun w0 ok0 => ?_
      repeat (first | refine zc ?_ | ((first | apply c_l | apply c_q | apply c_lr | apply c_qr); (iterate 2 exact rfl); (focus (first | exact eL | exact eA | exact eS | exact e1 | exact e2 | exact hsf)); (iterate 2 exact rfl)) | (apply v_c; (iterate 4 exact rfl); (focus (first | exact eL | exact eA | exact eS | exact e1 | exact e2 | exact hsf)); (iterate 2 exact rfl)) | refine zv ?_)
      (refine awp_ret ?_; (repeat (first | refine then_r ?_ | refine block_r ?_ | refine loop_r ?_)); apply ret_ok (.inr rfl); (focus exact rfl))
      rfl
end Go.Proofs.Ytampglcgipefnaa
