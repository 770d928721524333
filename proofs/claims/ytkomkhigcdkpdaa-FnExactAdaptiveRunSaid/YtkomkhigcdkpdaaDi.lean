/- AdaptiveRun, in the reference and in the program. No condition. -/
import Derived.Test.YtkomkhigcdkpdaaDh
namespace Go.Proofs.Ytkomkhigcdkpdaa
open Go
attribute [local irreducible] awp awpL awpQL awpQ awpM pWalk Qt AC thenQ blockQ loopQ OpTo
set_option linter.unusedVariables false
set_option linter.unusedSimpArgs false
set_option maxHeartbeats 2000000
attribute [local irreducible] HC

theorem spec_l00Has {l : List Int} {q : Int} (hn : l.length ≤ 9223372036854775807) : AC Try.prog 54 [ints l, .int .i64 q] (.bool (decide (q ∈ l))) := by
  have hle : (List.map (D.int IntKind.i64) l).length = l.length := by simp
  refine ac_intro tabIs _ Try.func54 rfl rfl Try.ntmps54 rfl rfl fun w0 ok0 => ?_
  repeat (first | refine awp_seq ?_ | refine then_n ?_ | refine then_r ?_ | refine then_x ?_ | refine block_n ?_ | refine block_r ?_ | refine block_x ?_ | refine u_y ?_ | refine loop_r ?_ | refine loop_x ?_ | refine awp_region ?_ | refine awpL_nil ?_ | refine awpQL_nil ?_ | refine awp_block ?_ | refine awp_skip ?_ | refine awp_exit ?_ | refine awp_label ?_ | refine u_dT ?_ | refine u_d ?_ | refine u_l ?_ | refine u_o ?_ | refine u_q ?_ | refine u_lr ?_ | refine u_qr ?_ | refine u_ls ?_ | refine u_qs ?_ | refine u_t ?_ | refine u_f ?_ | refine v_s ?_ | refine v_o ?_ | refine v_on ?_ | refine v_og ?_ | refine v_q ?_ | refine v_sr ?_ | refine v_k ?_ | refine m_nil ?_)
  refine awp_loop (fun k : Nat => k ≤ l.length ∧ q ∉ l.take k) (fun k => [(0, .d (ints l)), (1, .d (.int .i64 q)), (5, .d (.int .i64 k))]) (fun _ => []) (fun k => l.length - k) 0 (by exact ⟨by omega, by simp⟩) ?_ rfl ?_
  · ((repeat (first | exact trivial | (refine ⟨?_, ?_⟩; (focus (first | rfl | (simp [lk, argsS, args0]; done) | (simp [lk, argsS, args0]; omega)))))))
  · rintro k ⟨hk, hnot⟩
    by_cases hlt : k < l.length
    · have hx := el_int hlt
      by_cases e : l[k] = q
      · repeat (first | refine awp_seq ?_ | refine then_n ?_ | refine then_r ?_ | refine then_x ?_ | refine block_n ?_ | refine block_r ?_ | refine block_x ?_ | refine u_y ?_ | refine loop_r ?_ | refine loop_x ?_ | refine awp_region ?_ | refine awpL_nil ?_ | refine awpQL_nil ?_ | refine awp_block ?_ | refine awp_skip ?_ | refine awp_exit ?_ | refine awp_label ?_ | refine u_dT ?_ | refine u_d ?_ | refine u_l ?_ | refine u_o ?_ | refine u_q ?_ | refine u_lr ?_ | refine u_qr ?_ | refine u_ls ?_ | refine u_qs ?_ | refine u_t ?_ | refine u_f ?_ | refine v_s ?_ | refine v_o ?_ | refine v_on ?_ | refine v_og ?_ | refine v_q ?_ | refine v_sr ?_ | refine v_k ?_ | refine m_nil ?_)
        (refine awp_ret ?_; (repeat (first | refine then_r ?_ | refine block_r ?_ | refine loop_r ?_)); apply ret_ok (.inr rfl); (focus exact rfl))
        rw [decide_eq_true (e ▸ List.getElem_mem hlt)]
      · repeat (first | refine awp_seq ?_ | refine then_n ?_ | refine then_r ?_ | refine then_x ?_ | refine block_n ?_ | refine block_r ?_ | refine block_x ?_ | refine u_y ?_ | refine loop_r ?_ | refine loop_x ?_ | refine awp_region ?_ | refine awpL_nil ?_ | refine awpQL_nil ?_ | refine awp_block ?_ | refine awp_skip ?_ | refine awp_exit ?_ | refine awp_label ?_ | refine u_dT ?_ | refine u_d ?_ | refine u_l ?_ | refine u_o ?_ | refine u_q ?_ | refine u_lr ?_ | refine u_qr ?_ | refine u_ls ?_ | refine u_qs ?_ | refine u_t ?_ | refine u_f ?_ | refine v_s ?_ | refine v_o ?_ | refine v_on ?_ | refine v_og ?_ | refine v_q ?_ | refine v_sr ?_ | refine v_k ?_ | refine m_nil ?_)
        refine loop_n (k + 1) ⟨by omega, fun h => ?_⟩ ?_ rfl (by omega)
        · rw [List.take_succ_eq_append_getElem hlt, List.mem_append, List.mem_singleton] at h
          rcases h with h | h
          · exact hnot h
          · exact e h.symm
        · ((repeat (first | exact trivial | (refine ⟨?_, ?_⟩; (focus (first | rfl | (simp [lk, argsS, args0]; done) | (simp [lk, argsS, args0]; omega)))))))
    · have : k = l.length := by omega
      subst this
      rw [List.take_length] at hnot
      repeat (first | refine awp_seq ?_ | refine then_n ?_ | refine then_r ?_ | refine then_x ?_ | refine block_n ?_ | refine block_r ?_ | refine block_x ?_ | refine u_y ?_ | refine loop_r ?_ | refine loop_x ?_ | refine awp_region ?_ | refine awpL_nil ?_ | refine awpQL_nil ?_ | refine awp_block ?_ | refine awp_skip ?_ | refine awp_exit ?_ | refine awp_label ?_ | refine u_dT ?_ | refine u_d ?_ | refine u_l ?_ | refine u_o ?_ | refine u_q ?_ | refine u_lr ?_ | refine u_qr ?_ | refine u_ls ?_ | refine u_qs ?_ | refine u_t ?_ | refine u_f ?_ | refine v_s ?_ | refine v_o ?_ | refine v_on ?_ | refine v_og ?_ | refine v_q ?_ | refine v_sr ?_ | refine v_k ?_ | refine m_nil ?_)
      (refine awp_ret ?_; (repeat (first | refine then_r ?_ | refine block_r ?_ | refine loop_r ?_)); apply ret_ok (.inr rfl); (focus exact rfl))
      rw [decide_eq_false hnot]

theorem impl_indexS {l : List Int} {q : Int} {k0 : Nat} (hn : l.length ≤ 9223372036854775807) (h0 : k0 < l.length) (hq : l[k0] = q) (hmin : ∀ d, (h : d < k0) → ¬ l[d] = q) : AC Try.prog 103 [ints l, .int .i64 q] (.int .i64 k0) := by
  have hle : (List.map (D.int IntKind.i64) l).length = l.length := by simp
  refine ac_intro tabIs _ Try.func103 rfl rfl Try.ntmps103 rfl rfl fun w0 ok0 => ?_
  repeat (first | refine awp_seq ?_ | refine then_n ?_ | refine then_r ?_ | refine then_x ?_ | refine block_n ?_ | refine block_r ?_ | refine block_x ?_ | refine u_y ?_ | refine loop_r ?_ | refine loop_x ?_ | refine awp_region ?_ | refine awpL_nil ?_ | refine awpQL_nil ?_ | refine awp_block ?_ | refine awp_skip ?_ | refine awp_exit ?_ | refine awp_label ?_ | refine u_dT ?_ | refine u_d ?_ | refine u_l ?_ | refine u_o ?_ | refine u_q ?_ | refine u_lr ?_ | refine u_qr ?_ | refine u_ls ?_ | refine u_qs ?_ | refine u_t ?_ | refine u_f ?_ | refine v_s ?_ | refine v_o ?_ | refine v_on ?_ | refine v_og ?_ | refine v_q ?_ | refine v_sr ?_ | refine v_k ?_ | refine m_nil ?_)
  refine awp_loop (fun k : Nat => k ≤ k0) (fun k => [(0, .d (ints l)), (1, .d (.int .i64 q)), (7, .d (.int .i64 l.length)), (8, .d (.int .i64 k))]) (fun _ => []) (fun k => l.length - k) 0 (by omega) ?_ rfl ?_
  · refine ⟨rfl, rfl, ?_, rfl, trivial⟩
    simp [lk, args0]
  · intro k hk
    have hlt : k < l.length := by omega
    have hx := el_int hlt
    by_cases e : k < k0
    · have hne := hmin k e
      have hne2 : ¬ q = l[k] := fun h => hne h.symm
      repeat (first | refine awp_seq ?_ | refine then_n ?_ | refine then_r ?_ | refine then_x ?_ | refine block_n ?_ | refine block_r ?_ | refine block_x ?_ | refine u_y ?_ | refine loop_r ?_ | refine loop_x ?_ | refine awp_region ?_ | refine awpL_nil ?_ | refine awpQL_nil ?_ | refine awp_block ?_ | refine awp_skip ?_ | refine awp_exit ?_ | refine awp_label ?_ | refine u_dT ?_ | refine u_d ?_ | refine u_l ?_ | refine u_o ?_ | refine u_q ?_ | refine u_lr ?_ | refine u_qr ?_ | refine u_ls ?_ | refine u_qs ?_ | refine u_t ?_ | refine u_f ?_ | refine v_s ?_ | refine v_o ?_ | refine v_on ?_ | refine v_og ?_ | refine v_q ?_ | refine v_sr ?_ | refine v_k ?_ | refine m_nil ?_)
      refine loop_n (k + 1) (by omega) ?_ rfl (by omega)
      ((repeat (first | exact trivial | (refine ⟨?_, ?_⟩; (focus (first | rfl | (simp [lk, argsS, args0]; done) | (simp [lk, argsS, args0]; omega)))))))
    · have : k = k0 := by omega
      subst this
      have he : q = l[k] := hq.symm
      repeat (first | refine awp_seq ?_ | refine then_n ?_ | refine then_r ?_ | refine then_x ?_ | refine block_n ?_ | refine block_r ?_ | refine block_x ?_ | refine u_y ?_ | refine loop_r ?_ | refine loop_x ?_ | refine awp_region ?_ | refine awpL_nil ?_ | refine awpQL_nil ?_ | refine awp_block ?_ | refine awp_skip ?_ | refine awp_exit ?_ | refine awp_label ?_ | refine u_dT ?_ | refine u_d ?_ | refine u_l ?_ | refine u_o ?_ | refine u_q ?_ | refine u_lr ?_ | refine u_qr ?_ | refine u_ls ?_ | refine u_qs ?_ | refine u_t ?_ | refine u_f ?_ | refine v_s ?_ | refine v_o ?_ | refine v_on ?_ | refine v_og ?_ | refine v_q ?_ | refine v_sr ?_ | refine v_k ?_ | refine m_nil ?_)
      (refine awp_ret ?_; (repeat (first | refine then_r ?_ | refine block_r ?_ | refine loop_r ?_)); apply ret_ok (.inr rfl); (focus exact rfl))
      rfl
theorem impl_indexS0 {l : List Int} {q : Int} (hn : l.length ≤ 9223372036854775807) (hnot : q ∉ l) : AC Try.prog 103 [ints l, .int .i64 q] (.int .i64 (-1)) := by
  have hle : (List.map (D.int IntKind.i64) l).length = l.length := by simp
  refine ac_intro tabIs _ Try.func103 rfl rfl Try.ntmps103 rfl rfl fun w0 ok0 => ?_
  repeat (first | refine awp_seq ?_ | refine then_n ?_ | refine then_r ?_ | refine then_x ?_ | refine block_n ?_ | refine block_r ?_ | refine block_x ?_ | refine u_y ?_ | refine loop_r ?_ | refine loop_x ?_ | refine awp_region ?_ | refine awpL_nil ?_ | refine awpQL_nil ?_ | refine awp_block ?_ | refine awp_skip ?_ | refine awp_exit ?_ | refine awp_label ?_ | refine u_dT ?_ | refine u_d ?_ | refine u_l ?_ | refine u_o ?_ | refine u_q ?_ | refine u_lr ?_ | refine u_qr ?_ | refine u_ls ?_ | refine u_qs ?_ | refine u_t ?_ | refine u_f ?_ | refine v_s ?_ | refine v_o ?_ | refine v_on ?_ | refine v_og ?_ | refine v_q ?_ | refine v_sr ?_ | refine v_k ?_ | refine m_nil ?_)
  refine awp_loop (fun k : Nat => k ≤ l.length) (fun k => [(0, .d (ints l)), (1, .d (.int .i64 q)), (7, .d (.int .i64 l.length)), (8, .d (.int .i64 k))]) (fun _ => []) (fun k => l.length - k) 0 (by omega) ?_ rfl ?_
  · refine ⟨rfl, rfl, ?_, rfl, trivial⟩
    simp [lk, args0]
  · intro k hk
    by_cases hlt : k < l.length
    · have hx := el_int hlt
      have hne2 : ¬ q = l[k] := fun h => hnot (h ▸ List.getElem_mem hlt)
      repeat (first | refine awp_seq ?_ | refine then_n ?_ | refine then_r ?_ | refine then_x ?_ | refine block_n ?_ | refine block_r ?_ | refine block_x ?_ | refine u_y ?_ | refine loop_r ?_ | refine loop_x ?_ | refine awp_region ?_ | refine awpL_nil ?_ | refine awpQL_nil ?_ | refine awp_block ?_ | refine awp_skip ?_ | refine awp_exit ?_ | refine awp_label ?_ | refine u_dT ?_ | refine u_d ?_ | refine u_l ?_ | refine u_o ?_ | refine u_q ?_ | refine u_lr ?_ | refine u_qr ?_ | refine u_ls ?_ | refine u_qs ?_ | refine u_t ?_ | refine u_f ?_ | refine v_s ?_ | refine v_o ?_ | refine v_on ?_ | refine v_og ?_ | refine v_q ?_ | refine v_sr ?_ | refine v_k ?_ | refine m_nil ?_)
      refine loop_n (k + 1) (by omega) ?_ rfl (by omega)
      ((repeat (first | exact trivial | (refine ⟨?_, ?_⟩; (focus (first | rfl | (simp [lk, argsS, args0]; done) | (simp [lk, argsS, args0]; omega)))))))
    · have : k = l.length := by omega
      subst this
      repeat (first | refine awp_seq ?_ | refine then_n ?_ | refine then_r ?_ | refine then_x ?_ | refine block_n ?_ | refine block_r ?_ | refine block_x ?_ | refine u_y ?_ | refine loop_r ?_ | refine loop_x ?_ | refine awp_region ?_ | refine awpL_nil ?_ | refine awpQL_nil ?_ | refine awp_block ?_ | refine awp_skip ?_ | refine awp_exit ?_ | refine awp_label ?_ | refine u_dT ?_ | refine u_d ?_ | refine u_l ?_ | refine u_o ?_ | refine u_q ?_ | refine u_lr ?_ | refine u_qr ?_ | refine u_ls ?_ | refine u_qs ?_ | refine u_t ?_ | refine u_f ?_ | refine v_s ?_ | refine v_o ?_ | refine v_on ?_ | refine v_og ?_ | refine v_q ?_ | refine v_sr ?_ | refine v_k ?_ | refine m_nil ?_)
      (refine awp_ret ?_; (repeat (first | refine then_r ?_ | refine block_r ?_ | refine loop_r ?_)); apply ret_ok (.inr rfl); (focus exact rfl))
      rfl
theorem impl_containsS {l : List Int} {q : Int} (hn : l.length ≤ 9223372036854775807) : AC Try.prog 56 [ints l, .int .i64 q] (.bool (decide (q ∈ l))) := by
  by_cases h : q ∈ l
  · obtain ⟨k, hk, hkq⟩ := List.getElem_of_mem h
    obtain ⟨k0, h1, ⟨h2, h3⟩, h4⟩ := first_ex (P := fun k => ∃ hk : k < l.length, l[k] = q) k ⟨hk, hkq⟩
    have e1 := impl_indexS hn h2 h3 fun d hd he => h4 d hd ⟨by omega, he⟩
    rw [decide_eq_true h]
    refine ac_intro tabIs _ Try.func56 rfl rfl Try.ntmps56 rfl rfl fun w0 ok0 => ?_
    repeat (first | refine awp_seq ?_ | refine then_n ?_ | refine then_r ?_ | refine then_x ?_ | refine block_n ?_ | refine block_r ?_ | refine block_x ?_ | refine u_y ?_ | refine loop_r ?_ | refine loop_x ?_ | refine awp_region ?_ | refine awpL_nil ?_ | refine awpQL_nil ?_ | refine awp_block ?_ | refine awp_skip ?_ | refine awp_exit ?_ | refine awp_label ?_ | refine u_dT ?_ | refine u_d ?_ | ((first | apply c_l | apply c_q | apply c_lr | apply c_qr); (iterate 2 exact rfl); (focus (first | exact e1)); (iterate 2 exact rfl)) | (apply v_c; (iterate 4 exact rfl); (focus (first | exact e1)); (iterate 2 exact rfl)) | refine u_l ?_ | refine u_o ?_ | refine u_q ?_ | refine u_lr ?_ | refine u_qr ?_ | refine u_ls ?_ | refine u_qs ?_ | refine u_t ?_ | refine u_f ?_ | refine v_s ?_ | refine v_o ?_ | refine v_on ?_ | refine v_og ?_ | refine v_q ?_ | refine v_sr ?_ | refine v_k ?_ | refine m_nil ?_)
    (refine awp_ret ?_; (repeat (first | refine then_r ?_ | refine block_r ?_ | refine loop_r ?_)); apply ret_ok (.inr rfl); (focus exact rfl))
    rw [decide_eq_true (by omega)]
  · have e1 := impl_indexS0 hn h
    rw [decide_eq_false h]
    refine ac_intro tabIs _ Try.func56 rfl rfl Try.ntmps56 rfl rfl fun w0 ok0 => ?_
    repeat (first | refine awp_seq ?_ | refine then_n ?_ | refine then_r ?_ | refine then_x ?_ | refine block_n ?_ | refine block_r ?_ | refine block_x ?_ | refine u_y ?_ | refine loop_r ?_ | refine loop_x ?_ | refine awp_region ?_ | refine awpL_nil ?_ | refine awpQL_nil ?_ | refine awp_block ?_ | refine awp_skip ?_ | refine awp_exit ?_ | refine awp_label ?_ | refine u_dT ?_ | refine u_d ?_ | ((first | apply c_l | apply c_q | apply c_lr | apply c_qr); (iterate 2 exact rfl); (focus (first | exact e1)); (iterate 2 exact rfl)) | (apply v_c; (iterate 4 exact rfl); (focus (first | exact e1)); (iterate 2 exact rfl)) | refine u_l ?_ | refine u_o ?_ | refine u_q ?_ | refine u_lr ?_ | refine u_qr ?_ | refine u_ls ?_ | refine u_qs ?_ | refine u_t ?_ | refine u_f ?_ | refine v_s ?_ | refine v_o ?_ | refine v_on ?_ | refine v_og ?_ | refine v_q ?_ | refine v_sr ?_ | refine v_k ?_ | refine m_nil ?_)
    (refine awp_ret ?_; (repeat (first | refine then_r ?_ | refine block_r ?_ | refine loop_r ?_)); apply ret_ok (.inr rfl); (focus exact rfl))
    rfl

/-! ### The run -/

noncomputable def runA (s : Int) (nx : List (List Int)) (lp : List Int) : Nat → Nat → Int → List Int → List Int × Int
  | 0, _, q, out => (out, q)
  | k + 1, f, q, out => if dep s nx lp f = 0 then (out, q) else runA s nx lp k (bel nx lp f (ltr s nx lp f).toNat (lamp lp (at2 nx (ltr s nx lp f) q)).toNat) (at2 nx (ltr s nx lp f) q) (out ++ [ltr s nx lp f])
theorem runA_len {s : Int} {nx : List (List Int)} {lp : List Int} : ∀ (k f : Nat) (q : Int) (out : List Int), (runA s nx lp k f q out).1.length ≤ out.length + k
  | 0, _, _, out => Nat.le_refl _
  | k + 1, f, q, out => by
    unfold runA
    split
    · show out.length ≤ _; omega
    · have := runA_len (s := s) (nx := nx) (lp := lp) k (bel nx lp f (ltr s nx lp f).toNat (lamp lp (at2 nx (ltr s nx lp f) q)).toNat) (at2 nx (ltr s nx lp f) q) (out ++ [ltr s nx lp f])
      rw [List.length_append] at this
      simp only [List.length_singleton] at this
      omega
theorem runA_end {s : Int} {nx : List (List Int)} {lp : List Int} {k f : Nat} {q : Int} {out : List Int} (h : dep s nx lp f = 0) : runA s nx lp k f q out = (out, q) := by
  cases k with
  | zero => rfl
  | succ k => exact if_pos h
/-- One step. -/
structure Stp (s : Int) (nx : List (List Int)) (lp : List Int) (f : Nat) (q : Int) (x y : Nat) (q' : Int) : Prop where
  x1 : x < nx.length
  y1 : y < 4
  l1 : ltr s nx lp f = x
  a1 : at2 nx x q = q'
  q1 : 0 ≤ q' ∧ q' < s
  y2 : lamp lp q' = y
  f1 : bel nx lp f x y < 2 ^ s.toNat
  d1 : 0 ≤ dep s nx lp (bel nx lp f x y) ∧ dep s nx lp (bel nx lp f x y) < dep s nx lp f
  r1 : ∀ (k : Nat) (out : List Int), dep s nx lp f ≤ k → runA s nx lp k f q out = runA s nx lp (k - 1) (bel nx lp f x y) q' (out ++ [(x : Int)])
theorem lamp_range {s : Int} {nx : List (List Int)} {lp : List Int} (hv : litOk s nx lp = true) {q : Int} (hq : 0 ≤ q ∧ q < s) : 0 ≤ lamp lp q ∧ lamp lp q ≤ 3 := by
  have v := lv_of hv
  have hlp := v.lp
  simp only [litOk, Bool.and_eq_true] at hv
  have hall := hv.2.2
  simp only [allIn, List.all_eq_true, inB, Bool.and_eq_true, decide_eq_true_eq] at hall
  have hm : lamp lp q ∈ lp := by
    unfold lamp
    have hlt : q.toNat < lp.length := by omega
    rw [List.getD_eq_getElem?_getD, List.getElem?_eq_getElem hlt]
    exact List.getElem_mem hlt
  exact hall _ hm
theorem stp {s : Int} {nx : List (List Int)} {lp : List Int} (hv : litOk s nx lp = true) {f : Nat} {q : Int} (hf : f < 2 ^ s.toNat) (hq : 0 ≤ q ∧ q < s) (hd : 0 < dep s nx lp f) : ∃ x y q', Stp s nx lp f q x y q' := by
  have v := lv_of hv
  obtain ⟨⟨x, hx1, hx2, hx3⟩, _⟩ := ltr_spec hd
  have hx' : 0 ≤ (x : Int) ∧ (x : Int) < nx.length := by omega
  have hq' := tbl_at v.nx hx' hq
  have hl := lamp_range hv hq'
  have hy : lamp lp (at2 nx x q) = ((lamp lp (at2 nx x q)).toNat : Int) := by omega
  refine ⟨x, (lamp lp (at2 nx x q)).toNat, at2 nx x q, hx2, by omega, hx1, rfl, hq', hy, bel_lt v hf hx2, fitB_iff.1 hx3 _ (by omega), fun k out hk => ?_⟩
  cases k with
  | zero => omega
  | succ k =>
    show (if dep s nx lp f = 0 then (out, q) else _) = _
    rw [if_neg (by omega), hx1]
    rfl

theorem dep_zero {s : Int} {nx : List (List Int)} {lp : List Int} {f : Nat} : dep s nx lp f = 0 ↔ sm f = true := by
  unfold dep
  generalize Classical.choose (still_ex nx lp (List.range (2 ^ s.toNat))) = c
  have h0 : dN nx lp 0 f = if sm f then 0 else -1 := rfl
  have h1 : 0 ≤ dN nx lp 0 f ↔ 0 ≤ dN nx lp c f ∧ dN nx lp c f ≤ (0 : Nat) := dv_le (Nat.zero_le c)
  constructor
  · intro h
    have := h1.2 (by omega)
    cases hs : sm f with
    | true => rfl
    | false => rw [h0, hs] at this; simp at this
  · intro h
    rw [h, if_pos rfl] at h0
    have := h1.1 (by omega)
    omega
theorem len_all : ((List.range 1024).all fun f => decide ((setN f).length ≤ 1) == sm f) = true := by decide +kernel
theorem len_sm {f : Nat} (hf : f < 1024) : (setN f).length ≤ 1 ↔ sm f = true := by
  have := List.all_eq_true.1 len_all f (List.mem_range.2 hf)
  simp only [beq_iff_eq] at this
  rw [← this, decide_eq_true_eq]

/-- What AdaptiveRun answers. -/
noncomputable def rnD (s : Int) (nx : List (List Int)) (lp l : List Int) (q : Int) : List Int × Int × Int :=
  if adC s nx lp l = 0 then
    if q ∈ l then
      if 0 ≤ dep s nx lp (bitsL 0 l) then ((runA s nx lp (dep s nx lp (bitsL 0 l)).toNat (bitsL 0 l) q []).1, (runA s nx lp (dep s nx lp (bitsL 0 l)).toNat (bitsL 0 l) q []).2, 0) else ([], 0, 6)
    else ([], 0, 2)
  else ([], 0, adC s nx lp l)

end Go.Proofs.Ytkomkhigcdkpdaa
