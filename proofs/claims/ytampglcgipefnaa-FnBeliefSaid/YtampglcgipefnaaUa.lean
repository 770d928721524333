/- The law of belief. No condition. -/
import Derived.Test.YtampglcgipefnaaOz
namespace Go.Proofs.Ytampglcgipefnaa
open Go
attribute [local irreducible] awp awpL awpQL awpQ awpM pWalk Qt AC thenQ blockQ loopQ OpTo
set_option linter.unusedVariables false
set_option linter.unusedSimpArgs false
set_option maxHeartbeats 2000000
attribute [local irreducible] HC

/-! ### A drawn set -/
def stK (code : List Int) : Nat → List Int × Src
  | 0 => ([], ⟨0, 0⟩)
  | k + 1 => (if pickV code 2 (stK code k).2 = 0 then (stK code k).1 ++ [(k : Int)] else (stK code k).1, pickS code 2 (stK code k).2)
theorem stK_ok {code : List Int} : ∀ k, SOk (stK code k).2 (2 * k)
  | 0 => ⟨Nat.le_refl _, by simp [stK]⟩
  | k + 1 => by
    show SOk (pickS code 2 (stK code k).2) _
    exact (pick_ok (stK_ok k)).mono (by omega)
theorem stK_el {code : List Int} : ∀ k : Nat, (∀ q ∈ (stK code k).1, 0 ≤ q ∧ q < (k : Int)) ∧ (stK code k).1.Pairwise (· < ·) ∧ (stK code k).1.length ≤ k
  | 0 => ⟨(fun q h => by cases h), List.Pairwise.nil, Nat.le_refl _⟩
  | k + 1 => by
    obtain ⟨h1, h2, h3⟩ := stK_el (code := code) k
    unfold stK
    dsimp only
    split
    · refine ⟨fun q hq => ?_, List.pairwise_append.2 ⟨h2, List.pairwise_singleton _ _, fun a ha b hb => ?_⟩, by simp; omega⟩
      · rcases List.mem_append.1 hq with h | h
        · have := h1 q h; omega
        · simp at h; subst h; omega
      · simp at hb; subst hb; exact (h1 a ha).2
    · exact ⟨(fun q hq => by have := h1 q hq; omega), h2, by omega⟩
theorem spec_A2Set {code : List Int} {s : Int} {nx : List (List Int)} (hb : BytesOk code) (hs : 0 ≤ s ∧ s ≤ 100) : AC Try.prog 13 [u8s code, .agg [.int .i64 s, rows nx]] (ints (stK code s.toNat).1) := by
  have c0 := spec_From (code := code)
  have hQ : ∀ (s : Src) (k : Nat) (n : Int), SOk s k → k ≤ 999999990 → n ≤ 1000 → HC Try.prog 33 [.ref 10000 0, .d (.int .i64 n)] [(10000, srcB code s)] (.d (.bool (decide (pickV code n s = 0)))) [(10000, srcB code (pickS code n s))] := fun s k n a b c => spec_one hb a b (by omega)
  unfold srcB at *
  refine ac_intro tabIs _ Try.func13 rfl rfl Try.ntmps13 rfl rfl fun w0 ok0 => ?_
  repeat (first | refine awp_seq ?_ | refine then_n ?_ | refine then_r ?_ | refine then_x ?_ | refine block_n ?_ | refine block_r ?_ | refine block_x ?_ | refine u_y ?_ | refine loop_r ?_ | refine loop_x ?_ | refine awp_region ?_ | refine awpL_nil ?_ | refine awpQL_nil ?_ | refine awp_block ?_ | refine awp_skip ?_ | refine awp_exit ?_ | refine awp_label ?_ | refine u_dT ?_ | refine u_d ?_ | refine u_l ?_ | refine u_o ?_ | refine u_q ?_ | refine u_lr ?_ | refine u_qr ?_ | refine u_ls ?_ | refine u_qs ?_ | refine u_t ?_ | refine u_f ?_ | refine v_s ?_ | refine v_o ?_ | refine v_on ?_ | refine v_og ?_ | refine v_q ?_ | refine v_sr ?_ | refine v_k ?_ | refine m_nil ?_)
  refine hcl [] [(30000, 100)] c0 ?_
  repeat (first | refine v_w (t := 10) ?_ | refine awp_seq ?_ | refine then_n ?_ | refine then_r ?_ | refine then_x ?_ | refine block_n ?_ | refine block_r ?_ | refine block_x ?_ | refine u_y ?_ | refine loop_r ?_ | refine loop_x ?_ | refine awp_region ?_ | refine awpL_nil ?_ | refine awpQL_nil ?_ | refine awp_block ?_ | refine awp_skip ?_ | refine awp_exit ?_ | refine awp_label ?_ | refine u_dT ?_ | refine u_d ?_ | refine u_w (t := 10) ?_ | refine u_l ?_ | refine u_o ?_ | refine u_q ?_ | refine u_lr ?_ | refine u_qr ?_ | refine u_ls ?_ | refine u_qs ?_ | refine u_t ?_ | refine u_f ?_ | refine v_s ?_ | refine v_o ?_ | refine v_on ?_ | refine v_og ?_ | refine v_q ?_ | refine v_sr ?_ | refine v_k ?_ | refine m_nil ?_)
  refine awp_perm [(10, .arr 2 1 []), (100, .box [.d (u8s code), .d (.int .i64 ((⟨0, 0⟩ : Src).pos : Nat)), .d (.int .u64 (⟨0, 0⟩ : Src).sd)])] rfl ?_
  refine awp_loop (fun k : Nat => (k : Int) ≤ s) (fun k => [(3, .d (.ptr (.agg [.int .i64 s, rows nx]))), (5, .ref 100 0), (6, .own 10), (7, .d (.int .i64 k))]) (fun k => [(10, .arr 2 1 ((stK code k).1.map (.int .i64))), (100, .box [.d (u8s code), .d (.int .i64 ((stK code k).2.pos : Nat)), .d (.int .u64 (stK code k).2.sd)])]) (fun k => s.toNat - k) 0 (by omega) ?_ rfl ?_
  · ((repeat (first | exact trivial | (refine ⟨?_, ?_⟩; (focus (first | rfl | (simp [lk, argsS, args0]; done) | (simp [lk, argsS, args0]; omega)))))))
  · intro k hk
    obtain ⟨o1, o2, o3⟩ := stK_el (code := code) k
    have hok := stK_ok (code := code) k
    have hlm : ((stK code k).1.map (D.int .i64)).length ≤ k := by simpa using o3
    by_cases hlt : (k : Int) < s
    · have c1 := hQ _ _ 2 hok (by omega) (by omega)
      have hst : stK code (k + 1) = (if pickV code 2 (stK code k).2 = 0 then (stK code k).1 ++ [(k : Int)] else (stK code k).1, pickS code 2 (stK code k).2) := rfl
      generalize stK code k = r at *
      by_cases h0 : pickV code 2 r.2 = 0
      · rw [if_pos h0] at hst
        repeat (first | refine awp_seq ?_ | refine then_n ?_ | refine then_r ?_ | refine then_x ?_ | refine block_n ?_ | refine block_r ?_ | refine block_x ?_ | refine u_y ?_ | refine loop_r ?_ | refine loop_x ?_ | refine awp_region ?_ | refine awpL_nil ?_ | refine awpQL_nil ?_ | refine awp_block ?_ | refine awp_skip ?_ | refine awp_exit ?_ | refine awp_label ?_ | refine u_dT ?_ | refine u_d ?_ | refine u_l ?_ | refine u_o ?_ | refine u_q ?_ | refine u_lr ?_ | refine u_qr ?_ | refine u_ls ?_ | refine u_qs ?_ | refine u_t ?_ | refine u_f ?_ | refine v_s ?_ | refine v_o ?_ | refine v_on ?_ | refine v_og ?_ | refine v_q ?_ | refine v_sr ?_ | refine v_k ?_ | refine m_nil ?_)
        refine hcl [(100, 10000)] [(10000, 100)] c1 ?_
        repeat (first | refine awp_seq ?_ | refine then_n ?_ | refine then_r ?_ | refine then_x ?_ | refine block_n ?_ | refine block_r ?_ | refine block_x ?_ | refine u_y ?_ | refine loop_r ?_ | refine loop_x ?_ | refine awpL_nil ?_ | refine awpQL_nil ?_ | refine awp_block ?_ | refine awp_skip ?_ | refine awp_exit ?_ | refine awp_label ?_ | refine u_dT ?_ | refine u_d ?_ | refine u_l ?_ | refine u_o ?_ | refine u_q ?_ | refine u_lr ?_ | refine u_qr ?_ | refine u_ls ?_ | refine u_qs ?_ | refine u_t ?_ | refine u_f ?_ | refine v_s ?_ | refine v_o ?_ | refine v_on ?_ | refine v_og ?_ | refine v_q ?_ | refine v_sr ?_ | refine v_k ?_ | refine m_nil ?_)
        refine awp_perm _ rfl ?_
        repeat (first | refine awp_seq ?_ | refine then_n ?_ | refine then_r ?_ | refine then_x ?_ | refine block_n ?_ | refine block_r ?_ | refine block_x ?_ | refine u_y ?_ | refine loop_r ?_ | refine loop_x ?_ | refine awp_region ?_ | refine awpL_nil ?_ | refine awpQL_nil ?_ | refine awp_block ?_ | refine awp_skip ?_ | refine awp_exit ?_ | refine awp_label ?_ | refine u_dT ?_ | refine u_d ?_ | refine u_l ?_ | refine u_o ?_ | refine u_q ?_ | refine u_lr ?_ | refine u_qr ?_ | refine u_ls ?_ | refine u_qs ?_ | refine u_t ?_ | refine u_f ?_ | refine v_s ?_ | refine v_o ?_ | refine v_on ?_ | refine v_og ?_ | refine v_q ?_ | refine v_sr ?_ | refine v_k ?_ | refine m_nil ?_)
        refine loop_n (k + 1) (by omega) ?_ ?_ (by omega)
        · ((repeat (first | exact trivial | (refine ⟨?_, ?_⟩; (focus (first | rfl | (simp [lk, argsS, args0]; done) | (simp [lk, argsS, args0]; omega)))))))
        · rw [hst]; simp only [List.map_append]; (as_aux_lemma => kernel_rfl)
      · rw [if_neg h0] at hst
        repeat (first | refine awp_seq ?_ | refine then_n ?_ | refine then_r ?_ | refine then_x ?_ | refine block_n ?_ | refine block_r ?_ | refine block_x ?_ | refine u_y ?_ | refine loop_r ?_ | refine loop_x ?_ | refine awp_region ?_ | refine awpL_nil ?_ | refine awpQL_nil ?_ | refine awp_block ?_ | refine awp_skip ?_ | refine awp_exit ?_ | refine awp_label ?_ | refine u_dT ?_ | refine u_d ?_ | refine u_l ?_ | refine u_o ?_ | refine u_q ?_ | refine u_lr ?_ | refine u_qr ?_ | refine u_ls ?_ | refine u_qs ?_ | refine u_t ?_ | refine u_f ?_ | refine v_s ?_ | refine v_o ?_ | refine v_on ?_ | refine v_og ?_ | refine v_q ?_ | refine v_sr ?_ | refine v_k ?_ | refine m_nil ?_)
        refine hcl [(100, 10000)] [(10000, 100)] c1 ?_
        repeat (first | refine awp_seq ?_ | refine then_n ?_ | refine then_r ?_ | refine then_x ?_ | refine block_n ?_ | refine block_r ?_ | refine block_x ?_ | refine u_y ?_ | refine loop_r ?_ | refine loop_x ?_ | refine awpL_nil ?_ | refine awpQL_nil ?_ | refine awp_block ?_ | refine awp_skip ?_ | refine awp_exit ?_ | refine awp_label ?_ | refine u_dT ?_ | refine u_d ?_ | refine u_l ?_ | refine u_o ?_ | refine u_q ?_ | refine u_lr ?_ | refine u_qr ?_ | refine u_ls ?_ | refine u_qs ?_ | refine u_t ?_ | refine u_f ?_ | refine v_s ?_ | refine v_o ?_ | refine v_on ?_ | refine v_og ?_ | refine v_q ?_ | refine v_sr ?_ | refine v_k ?_ | refine m_nil ?_)
        refine awp_perm _ rfl ?_
        repeat (first | refine awp_seq ?_ | refine then_n ?_ | refine then_r ?_ | refine then_x ?_ | refine block_n ?_ | refine block_r ?_ | refine block_x ?_ | refine u_y ?_ | refine loop_r ?_ | refine loop_x ?_ | refine awp_region ?_ | refine awpL_nil ?_ | refine awpQL_nil ?_ | refine awp_block ?_ | refine awp_skip ?_ | refine awp_exit ?_ | refine awp_label ?_ | refine u_dT ?_ | refine u_d ?_ | refine u_l ?_ | refine u_o ?_ | refine u_q ?_ | refine u_lr ?_ | refine u_qr ?_ | refine u_ls ?_ | refine u_qs ?_ | refine u_t ?_ | refine u_f ?_ | refine v_s ?_ | refine v_o ?_ | refine v_on ?_ | refine v_og ?_ | refine v_q ?_ | refine v_sr ?_ | refine v_k ?_ | refine m_nil ?_)
        refine loop_n (k + 1) (by omega) ?_ ?_ (by omega)
        · ((repeat (first | exact trivial | (refine ⟨?_, ?_⟩; (focus (first | rfl | (simp [lk, argsS, args0]; done) | (simp [lk, argsS, args0]; omega)))))))
        · rw [hst]; (as_aux_lemma => kernel_rfl)
    · have : k = s.toNat := by omega
      subst this
      repeat (first | refine awp_seq ?_ | refine then_n ?_ | refine then_r ?_ | refine then_x ?_ | refine block_n ?_ | refine block_r ?_ | refine block_x ?_ | refine u_y ?_ | refine loop_r ?_ | refine loop_x ?_ | refine awp_region ?_ | refine awpL_nil ?_ | refine awpQL_nil ?_ | refine awp_block ?_ | refine awp_skip ?_ | refine awp_exit ?_ | refine awp_label ?_ | refine u_dT ?_ | refine u_d ?_ | refine u_l ?_ | refine u_o ?_ | refine u_q ?_ | refine u_lr ?_ | refine u_qr ?_ | refine u_ls ?_ | refine u_qs ?_ | refine u_t ?_ | refine u_f ?_ | refine v_s ?_ | refine v_o ?_ | refine v_on ?_ | refine v_og ?_ | refine v_q ?_ | refine v_sr ?_ | refine v_k ?_ | refine m_nil ?_)
      (refine awp_ret ?_; (repeat (first | refine then_r ?_ | refine block_r ?_ | refine loop_r ?_)); apply ret_ok (.inr rfl); (focus exact rfl))
      rfl
theorem risB_of {l : List Int} {hi : Int} (h1 : ∀ q ∈ l, 0 ≤ q ∧ q ≤ hi) (h2 : l.Pairwise (· < ·)) : risB l hi = true := risB_true fun k hk => by
  have hg : ∀ j, (hj : j < l.length) → l.getD j 0 = l[j] := fun j hj => by rw [List.getD_eq_getElem?_getD, List.getElem?_eq_getElem hj]; rfl
  unfold risAt
  have hm := h1 _ (List.getElem_mem hk)
  rw [hg k hk]
  by_cases h0 : k = 0
  · simp [inB, h0] at hm ⊢
    subst h0
    exact hm
  · have := List.pairwise_iff_getElem.1 h2 (k - 1) k (by omega) hk (by omega)
    rw [hg (k - 1) (by omega)]
    simp [inB, this]
    exact hm

/-! ### Lamps -/
def cntL (lp L : List Int) : Nat → Nat
  | 0 => 0
  | k + 1 => cntL lp L k + (L.filter fun q => decide (lamp lp q = k)).length
theorem cntL_all {lp : List Int} : ∀ L : List Int, (∀ q ∈ L, 0 ≤ lamp lp q ∧ lamp lp q ≤ 3) → cntL lp L 4 = L.length
  | [], _ => rfl
  | q :: L, h => by
    have ih := cntL_all L fun x hx => h x (List.mem_cons_of_mem _ hx)
    have hq := h q (List.mem_cons_self ..)
    have hc : lamp lp q = 0 ∨ lamp lp q = 1 ∨ lamp lp q = 2 ∨ lamp lp q = 3 := by omega
    simp only [cntL] at ih ⊢
    rcases hc with e | e | e | e <;> simp [List.filter_cons, e] at ih ⊢ <;> omega
theorem cls_sum {lp L : List Int} : ∀ k, ((clsL lp L k).map List.length).sum = cntL lp L k
  | 0 => rfl
  | k + 1 => by
    have ih := cls_sum (lp := lp) (L := L) k
    unfold clsL cntL
    rw [List.map_append, List.sum_append, ih]
    split
    · rename_i h
      rw [h]; rfl
    · simp
theorem cls_ne {lp L : List Int} : ∀ k, ∀ l ∈ clsL lp L k, 1 ≤ l.length
  | 0, l, h => by cases h
  | k + 1, l, h => by
    unfold clsL at h
    rcases List.mem_append.1 h with h | h
    · exact cls_ne k l h
    · split at h
      · cases h
      · rename_i hne
        simp only [List.mem_singleton] at h
        subst h
        exact List.length_pos_iff.2 hne

theorem lamp_rangeB {s : Int} {nx : List (List Int)} {lp : List Int} (hv : litOk s nx lp = true) {q : Int} (hq : 0 ≤ q ∧ q < s) : 0 ≤ lamp lp q ∧ lamp lp q ≤ 3 := by
  have v := lv_of hv
  have hlp := v.lp
  simp only [litOk, Bool.and_eq_true] at hv
  have hall := hv.2.2
  simp only [allIn, List.all_eq_true, inB, Bool.and_eq_true, decide_eq_true_eq] at hall
  have hm : lamp lp q ∈ lp := by
    unfold lamp
    have hlt : q.toNat < lp.length := by omega
    rw [List.getD_eq_getElem?_getD, List.getElem?_eq_getElem hlt]
    exact List.getElem_mem hlt
  exact hall _ hm

/-! ### Images -/
theorem laws_a2Inside {a b : List Int} (h1 : a.length ≤ 9223372036854775807) (h2 : b.length ≤ 9223372036854775807) (hs : ∀ q ∈ a, q ∈ b) : AC Try.prog 24 [ints a, ints b] (.bool true) := by
  have hla : (List.map (D.int IntKind.i64) a).length = a.length := by simp
  refine ac_intro tabIs _ Try.func24 rfl rfl Try.ntmps24 rfl rfl fun w0 ok0 => ?_
  repeat (first | refine awp_seq ?_ | refine then_n ?_ | refine then_r ?_ | refine then_x ?_ | refine block_n ?_ | refine block_r ?_ | refine block_x ?_ | refine u_y ?_ | refine loop_r ?_ | refine loop_x ?_ | refine awp_region ?_ | refine awpL_nil ?_ | refine awpQL_nil ?_ | refine awp_block ?_ | refine awp_skip ?_ | refine awp_exit ?_ | refine awp_label ?_ | refine u_dT ?_ | refine u_d ?_ | refine u_l ?_ | refine u_o ?_ | refine u_q ?_ | refine u_lr ?_ | refine u_qr ?_ | refine u_ls ?_ | refine u_qs ?_ | refine u_t ?_ | refine u_f ?_ | refine v_s ?_ | refine v_o ?_ | refine v_on ?_ | refine v_og ?_ | refine v_q ?_ | refine v_sr ?_ | refine v_k ?_ | refine m_nil ?_)
  refine awp_loop (fun k : Nat => k ≤ a.length) (fun k => [(0, .d (ints a)), (1, .d (ints b)), (5, .d (.int .i64 k))]) (fun _ => []) (fun k => a.length - k) 0 (by omega) ?_ rfl ?_
  · ((repeat (first | exact trivial | (refine ⟨?_, ?_⟩; (focus (first | rfl | (simp [lk, argsS, args0]; done) | (simp [lk, argsS, args0]; omega)))))))
  · intro k hk
    by_cases hlt : k < a.length
    · have hx := el_int hlt
      have e := laws_a2Has (a := b) (n := a[k]) h2
      rw [decide_eq_true (hs _ (List.getElem_mem hlt))] at e
      generalize a[k] = x at *
      repeat (first | refine awp_seq ?_ | refine then_n ?_ | refine then_r ?_ | refine then_x ?_ | refine block_n ?_ | refine block_r ?_ | refine block_x ?_ | refine u_y ?_ | refine loop_r ?_ | refine loop_x ?_ | refine awp_region ?_ | refine awpL_nil ?_ | refine awpQL_nil ?_ | refine awp_block ?_ | refine awp_skip ?_ | refine awp_exit ?_ | refine awp_label ?_ | refine u_dT ?_ | refine u_d ?_ | ((first | apply c_l | apply c_q | apply c_lr | apply c_qr); (iterate 2 exact rfl); (focus (first | exact e)); (iterate 2 exact rfl)) | (apply v_c; (iterate 4 exact rfl); (focus (first | exact e)); (iterate 2 exact rfl)) | refine u_l ?_ | refine u_o ?_ | refine u_q ?_ | refine u_lr ?_ | refine u_qr ?_ | refine u_ls ?_ | refine u_qs ?_ | refine u_t ?_ | refine u_f ?_ | refine v_s ?_ | refine v_o ?_ | refine v_on ?_ | refine v_og ?_ | refine v_q ?_ | refine v_sr ?_ | refine v_k ?_ | refine m_nil ?_)
      refine loop_n (k + 1) (by omega) ?_ rfl (by omega)
      ((repeat (first | exact trivial | (refine ⟨?_, ?_⟩; (focus (first | rfl | (simp [lk, argsS, args0]; done) | (simp [lk, argsS, args0]; omega)))))))
    · repeat (first | refine awp_seq ?_ | refine then_n ?_ | refine then_r ?_ | refine then_x ?_ | refine block_n ?_ | refine block_r ?_ | refine block_x ?_ | refine u_y ?_ | refine loop_r ?_ | refine loop_x ?_ | refine awp_region ?_ | refine awpL_nil ?_ | refine awpQL_nil ?_ | refine awp_block ?_ | refine awp_skip ?_ | refine awp_exit ?_ | refine awp_label ?_ | refine u_dT ?_ | refine u_d ?_ | refine u_l ?_ | refine u_o ?_ | refine u_q ?_ | refine u_lr ?_ | refine u_qr ?_ | refine u_ls ?_ | refine u_qs ?_ | refine u_t ?_ | refine u_f ?_ | refine v_s ?_ | refine v_o ?_ | refine v_on ?_ | refine v_og ?_ | refine v_q ?_ | refine v_sr ?_ | refine v_k ?_ | refine m_nil ?_)
      (refine awp_ret ?_; (repeat (first | refine then_r ?_ | refine block_r ?_ | refine loop_r ?_)); apply ret_ok (.inr rfl); (focus exact rfl))
      rfl
theorem impl_codeA {s : Int} {nx : List (List Int)} {g : Nat} {cap : List D} {b : Bool} (h1 : RowsOk nx) (hv : autoOk s nx = true) (hg : AC Try.prog g cap (.bool b)) : AC Try.prog 41 [.agg [.int .i64 s, rows nx], .fn g cap] (.int .i64 (if b then 0 else 2)) := by
  have e1 := impl_ValidAutomaton (s := s) h1
  rw [hv] at e1
  cases b with
  | true =>
    refine ac_intro tabIs _ Try.func41 rfl rfl Try.ntmps41 rfl rfl fun w0 ok0 => ?_
    repeat (first | refine awp_seq ?_ | refine then_n ?_ | refine then_r ?_ | refine then_x ?_ | refine block_n ?_ | refine block_r ?_ | refine block_x ?_ | refine u_y ?_ | refine loop_r ?_ | refine loop_x ?_ | refine awp_region ?_ | refine awpL_nil ?_ | refine awpQL_nil ?_ | refine awp_block ?_ | refine awp_skip ?_ | refine awp_exit ?_ | refine awp_label ?_ | refine u_dT ?_ | refine u_d ?_ | ((first | apply c_l | apply c_q | apply c_lr | apply c_qr); (iterate 2 exact rfl); (focus (first | exact e1 | exact hg)); (iterate 2 exact rfl)) | (apply v_c; (iterate 4 exact rfl); (focus (first | exact e1 | exact hg)); (iterate 2 exact rfl)) | refine u_l ?_ | refine u_o ?_ | refine u_q ?_ | refine u_lr ?_ | refine u_qr ?_ | refine u_ls ?_ | refine u_qs ?_ | refine u_t ?_ | refine u_f ?_ | refine v_s ?_ | refine v_o ?_ | refine v_on ?_ | refine v_og ?_ | refine v_q ?_ | refine v_sr ?_ | refine v_k ?_ | refine m_nil ?_)
    (refine awp_ret ?_; (repeat (first | refine then_r ?_ | refine block_r ?_ | refine loop_r ?_)); apply ret_ok (.inr rfl); (focus exact rfl))
    rfl
  | false =>
    refine ac_intro tabIs _ Try.func41 rfl rfl Try.ntmps41 rfl rfl fun w0 ok0 => ?_
    repeat (first | refine awp_seq ?_ | refine then_n ?_ | refine then_r ?_ | refine then_x ?_ | refine block_n ?_ | refine block_r ?_ | refine block_x ?_ | refine u_y ?_ | refine loop_r ?_ | refine loop_x ?_ | refine awp_region ?_ | refine awpL_nil ?_ | refine awpQL_nil ?_ | refine awp_block ?_ | refine awp_skip ?_ | refine awp_exit ?_ | refine awp_label ?_ | refine u_dT ?_ | refine u_d ?_ | ((first | apply c_l | apply c_q | apply c_lr | apply c_qr); (iterate 2 exact rfl); (focus (first | exact e1 | exact hg)); (iterate 2 exact rfl)) | (apply v_c; (iterate 4 exact rfl); (focus (first | exact e1 | exact hg)); (iterate 2 exact rfl)) | refine u_l ?_ | refine u_o ?_ | refine u_q ?_ | refine u_lr ?_ | refine u_qr ?_ | refine u_ls ?_ | refine u_qs ?_ | refine u_t ?_ | refine u_f ?_ | refine v_s ?_ | refine v_o ?_ | refine v_on ?_ | refine v_og ?_ | refine v_q ?_ | refine v_sr ?_ | refine v_k ?_ | refine m_nil ?_)
    (refine awp_ret ?_; (repeat (first | refine then_r ?_ | refine block_r ?_ | refine loop_r ?_)); apply ret_ok (.inr rfl); (focus exact rfl))
    rfl
theorem autoOk_of {s : Int} {nx : List (List Int)} {lp : List Int} (hv : litOk s nx lp = true) : autoOk s nx = true := by
  simp only [litOk, Bool.and_eq_true] at hv
  exact hv.1
theorem rowsOkL {s : Int} {nx : List (List Int)} {lp : List Int} (v : LV s nx lp) : RowsOk nx := by
  have hs := v.s1
  have hn := v.n1
  refine ⟨fun ns h => ⟨fun q hq => ?_, ?_⟩, by omega⟩
  · have := (v.nx ns h).2 q hq
    unfold I64
    omega
  · have := (v.nx ns h).1
    omega
theorem impl_ImageOf {s : Int} {nx : List (List Int)} {lp l w : List Int} (hv : litOk s nx lp = true) (hl : ∀ q ∈ l, 0 ≤ q ∧ q < s) (hr : l.Pairwise (· < ·)) (hwl : w.length ≤ 400) (hwa : ∀ x ∈ w, 0 ≤ x ∧ x < nx.length) :
    AC Try.prog 21 [.agg [.int .i64 s, rows nx], ints l, ints w] (.tup [ints (imgL nx l w), .int .i64 0]) := by
  have v := lv_of hv
  have hs := v.s1
  have hn := v.n1
  have hl10 := ris_le10 hs.2 hl hr
  have e1 := impl_isSet (l := l) (b := s) (by omega) (by omega)
  rw [risB_of (fun q hq => by have := hl q hq; omega) hr] at e1
  have e2 := impl_isWordA (s := s) (nx := nx) (w := w) (by omega) (by omega)
  rw [show wordOk nx.length w = true by simp only [wordOk, allIn, inB, Bool.and_eq_true, List.all_eq_true, decide_eq_true_eq]; exact ⟨by omega, fun x hx => by have := hwa x hx; omega⟩] at e2
  have e3 : AC Try.prog 52 [.ptr (ints l), .ptr (.agg [.int .i64 s, rows nx]), .ptr (ints w)] (.bool true) := by
    refine ac_intro tabIs _ Try.func52 rfl rfl Try.ntmps52 rfl rfl fun w0 ok0 => ?_
    repeat (first | refine awp_seq ?_ | refine then_n ?_ | refine then_r ?_ | refine then_x ?_ | refine block_n ?_ | refine block_r ?_ | refine block_x ?_ | refine u_y ?_ | refine loop_r ?_ | refine loop_x ?_ | refine awp_region ?_ | refine awpL_nil ?_ | refine awpQL_nil ?_ | refine awp_block ?_ | refine awp_skip ?_ | refine awp_exit ?_ | refine awp_label ?_ | refine u_dT ?_ | refine u_d ?_ | ((first | apply c_l | apply c_q | apply c_lr | apply c_qr); (iterate 2 exact rfl); (focus (first | exact e1 | exact e2)); (iterate 2 exact rfl)) | (apply v_c; (iterate 4 exact rfl); (focus (first | exact e1 | exact e2)); (iterate 2 exact rfl)) | refine u_l ?_ | refine u_o ?_ | refine u_q ?_ | refine u_lr ?_ | refine u_qr ?_ | refine u_ls ?_ | refine u_qs ?_ | refine u_t ?_ | refine u_f ?_ | refine v_s ?_ | refine v_o ?_ | refine v_on ?_ | refine v_og ?_ | refine v_q ?_ | refine v_sr ?_ | refine v_k ?_ | refine m_nil ?_ | refine u_glt ?_ | refine u_glf ?_ | refine u_gqt ?_ | refine u_gqf ?_)
    (refine awp_ret ?_; (repeat (first | refine then_r ?_ | refine block_r ?_ | refine loop_r ?_)); apply ret_ok (.inr rfl); (focus exact rfl))
    rfl
  have e4 := impl_codeA (s := s) (nx := nx) (rowsOkL v) (autoOk_of hv) e3
  have e5 := impl_image (lp := lp) (l := l) (w := w) v hl (by omega) hwl hwa
  refine ac_intro tabIs _ Try.func21 rfl rfl Try.ntmps21 rfl rfl fun w0 ok0 => ?_
  repeat (first | refine awp_seq ?_ | refine then_n ?_ | refine then_r ?_ | refine then_x ?_ | refine block_n ?_ | refine block_r ?_ | refine block_x ?_ | refine u_y ?_ | refine loop_r ?_ | refine loop_x ?_ | refine awp_region ?_ | refine awpL_nil ?_ | refine awpQL_nil ?_ | refine awp_block ?_ | refine awp_skip ?_ | refine awp_exit ?_ | refine awp_label ?_ | refine u_dT ?_ | refine u_d ?_ | ((first | apply c_l | apply c_q | apply c_lr | apply c_qr); (iterate 2 exact rfl); (focus (first | exact e4 | exact e5)); (iterate 2 exact rfl)) | (apply v_c; (iterate 4 exact rfl); (focus (first | exact e4 | exact e5)); (iterate 2 exact rfl)) | refine u_l ?_ | refine u_o ?_ | refine u_q ?_ | refine u_lr ?_ | refine u_qr ?_ | refine u_ls ?_ | refine u_qs ?_ | refine u_t ?_ | refine u_f ?_ | refine v_s ?_ | refine v_o ?_ | refine v_on ?_ | refine v_og ?_ | refine v_q ?_ | refine v_sr ?_ | refine v_k ?_ | refine m_nil ?_)
  (refine awp_ret ?_; (repeat (first | refine then_r ?_ | refine block_r ?_ | refine loop_r ?_)); apply ret_ok (.inr rfl); (focus exact rfl))
  rfl

theorem law_FnBelief {code more : List Int} (hb : BytesOk code) (hm : BytesOk more) : AC Try.prog 5 [u8s code, u8s more] (.bool true) := by
  have eL := laws_a2Long (a := code) (b := more)
  by_cases hl : (decide (3000 < code.length) || decide (3000 < more.length)) = true
  · rw [hl] at eL
    refine ac_intro tabIs _ Try.func5 rfl rfl Try.ntmps5 rfl rfl fun w0 ok0 => ?_
    repeat (first | refine awp_seq ?_ | refine then_n ?_ | refine then_r ?_ | refine then_x ?_ | refine block_n ?_ | refine block_r ?_ | refine block_x ?_ | refine u_y ?_ | refine loop_r ?_ | refine loop_x ?_ | refine awp_region ?_ | refine awpL_nil ?_ | refine awpQL_nil ?_ | refine awp_block ?_ | refine awp_skip ?_ | refine awp_exit ?_ | refine awp_label ?_ | refine u_dT ?_ | refine u_d ?_ | ((first | apply c_l | apply c_q | apply c_lr | apply c_qr); (iterate 2 exact rfl); (focus (first | exact eL)); (iterate 2 exact rfl)) | (apply v_c; (iterate 4 exact rfl); (focus (first | exact eL)); (iterate 2 exact rfl)) | refine u_l ?_ | refine u_o ?_ | refine u_q ?_ | refine u_lr ?_ | refine u_qr ?_ | refine u_ls ?_ | refine u_qs ?_ | refine u_t ?_ | refine u_f ?_ | refine v_s ?_ | refine v_o ?_ | refine v_on ?_ | refine v_og ?_ | refine v_q ?_ | refine v_sr ?_ | refine v_k ?_ | refine m_nil ?_)
    (refine awp_ret ?_; (repeat (first | refine then_r ?_ | refine block_r ?_ | refine loop_r ?_)); apply ret_ok (.inr rfl); (focus exact rfl))
    rfl
  · rw [Bool.not_eq_true] at hl
    rw [hl] at eL
    have eA := spec_A2Lit hb
    have hv := drawn_ok hb
    generalize (drA code ⟨0, 0⟩).1 = s at *
    generalize (drA code ⟨0, 0⟩).2.1 = nx at *
    generalize (drP code ⟨0, 0⟩).1 = lp at *
    have v := lv_of hv
    have hs := v.s1
    have hn := v.n1
    have hlp := v.lp
    have eS := spec_A2Set (code := more) (s := s) (nx := nx) hm (by omega)
    obtain ⟨s1, s2, s3⟩ := stK_el (code := more) s.toNat
    have s1 : ∀ q ∈ (stK more s.toNat).1, 0 ≤ q ∧ q < s := fun q hq => by have := s1 q hq; omega
    generalize (stK more s.toNat).1 = set at *
    have hnm : (nx.map ints).length = nx.length := by simp
    have eX := laws_a2At (b := more) (n := ((nx.map ints).length : Nat)) hm (by omega)
    have hx := atV_range (b := more) (n := ((nx.map ints).length : Nat)) (by omega)
    generalize atV more ((nx.map ints).length : Nat) = x at *
    have eI := impl_ImageOf (l := set) (w := [x]) hv s1 s2 (by simp) (fun y hy => by simp at hy; subst hy; omega)
    have hi1 : ∀ q ∈ imgL nx set [x], 0 ≤ q ∧ q < s := fun q hq => by
      obtain ⟨r, hr, rfl⟩ := ((imgL_spec nx set [x]).2 q).1 hq
      exact runS_range v.nx _ (s1 r hr) fun l hl => by simp at hl; subst hl; omega
    have hil : (imgL nx set [x]).length ≤ 10 := ris_le10 hs.2 hi1 (imgL_spec nx set [x]).1
    have hBel : ∀ y : Int, 0 ≤ y ∧ y ≤ 3 → AC Try.prog 23 [.agg [.int .i64 s, rows nx, ints lp], ints set, .int .i64 x, .int .i64 y] (.tup [ints ((imgL nx set [x]).filter fun q => decide (lamp lp q = y)), .int .i64 0]) := fun y hy => by
      have := impl_BelievedH (s := s) (x := x) (y := y) (nx := nx) (lp := lp) (l := set) (rowsOkL v) (by omega) (by omega)
      have e : belD s nx lp set x y = ((imgL nx set [x]).filter fun q => decide (lamp lp q = y), 0) := by
        unfold belD
        rw [if_pos hv, if_pos]
        rw [risB_of (fun q hq => by have := s1 q hq; omega) s2]
        simp [inB]
        omega
      rw [e] at this
      exact ac_of_hc this rfl
    have eC : AC Try.prog 22 [.agg [.int .i64 s, rows nx, ints lp]] (.tup [rows (clsL lp (mk1 0 s.toNat) 4), .int .i64 0]) := by
      have := impl_LampClassesH (s := s) (nx := nx) (lp := lp) (rowsOkL v) (by omega)
      have e : lcD s nx lp = (clsL lp (mk1 0 s.toNat) 4, 0) := if_pos hv
      rw [e] at this
      have h2 : AC Try.prog 22 [.agg [.int .i64 s, rows nx, ints lp]] (.tup [.lst ((rws (clsL lp (mk1 0 s.toNat) 4)).map D.lst), .int .i64 0]) := ac_of_hc this rfl
      rw [rws_dat] at h2
      exact h2
    have hlam : ∀ q, 0 ≤ q ∧ q < s → 0 ≤ lamp lp q ∧ lamp lp q ≤ 3 := fun q hq => lamp_rangeB hv hq
    have hcnt := cntL_all (lp := lp) (imgL nx set [x]) fun q hq => hlam q (hi1 q hq)
    have hsum := cls_sum (lp := lp) (L := mk1 0 s.toNat) 4
    rw [cntL_all (mk1 0 s.toNat) fun q hq => hlam q (by have := (mem_mk1 _ _ q).1 hq; omega), mk1_length] at hsum
    have hne := cls_ne (lp := lp) (L := mk1 0 s.toNat) 4
    have hcl := clsL_len lp (mk1 0 s.toNat) 4
    have hcm := clsL_mem lp (mk1 0 s.toNat) 4
    rw [mk1_length] at hcm
    generalize clsL lp (mk1 0 s.toNat) 4 = cls at *
    generalize imgL nx set [x] = img at *
    have hlm : (lp.map (D.int .i64)).length = lp.length := by simp
    have him : (img.map (D.int .i64)).length = img.length := by simp
    unfold ltD at *
    refine ac_intro tabIs _ Try.func5 rfl rfl Try.ntmps5 rfl rfl fun w0 ok0 => ?_
    repeat (first | refine awp_seq ?_ | refine then_n ?_ | refine then_r ?_ | refine then_x ?_ | refine block_n ?_ | refine block_r ?_ | refine block_x ?_ | refine u_y ?_ | refine loop_r ?_ | refine loop_x ?_ | refine awp_region ?_ | refine awpL_nil ?_ | refine awpQL_nil ?_ | refine awp_block ?_ | refine awp_skip ?_ | refine awp_exit ?_ | refine awp_label ?_ | refine u_dT ?_ | refine u_d ?_ | ((first | apply c_l | apply c_q | apply c_lr | apply c_qr); (iterate 2 exact rfl); (focus (first | exact eL | exact eA | exact eS | exact eX | exact eI | exact eC)); (iterate 2 exact rfl)) | (apply v_c; (iterate 4 exact rfl); (focus (first | exact eL | exact eA | exact eS | exact eX | exact eI | exact eC)); (iterate 2 exact rfl)) | refine u_l ?_ | refine u_o ?_ | refine u_q ?_ | refine u_lr ?_ | refine u_qr ?_ | refine u_ls ?_ | refine u_qs ?_ | refine u_t ?_ | refine u_f ?_ | refine v_s ?_ | refine v_o ?_ | refine v_on ?_ | refine v_og ?_ | refine v_q ?_ | refine v_sr ?_ | refine v_k ?_ | refine m_nil ?_)
    refine awp_loop (fun k : Nat => k ≤ 4) (fun k => [(5, .ref 5 0), (6, .d (ints set)), (7, .d (.int .i64 x)), (8, .d (ints img)), (10, .d (rows cls)), (11, .d (.int .i64 0)), (12, .d (.int .i64 (cntL lp img k : Nat))), (13, .d (.int .i64 k))]) (fun _ => [(5, .box [.d (.int .i64 s), .d (rows nx), .d (ints lp)])]) (fun k => 4 - k) 0 (by omega) ?_ rfl ?_
    · ((repeat (first | exact trivial | (refine ⟨?_, ?_⟩; (focus (first | rfl | (simp [lk, argsS, args0]; done) | (simp [lk, argsS, args0]; omega)))))))
    · intro k hk
      have hck : cntL lp img (k + 1) = cntL lp img k + (img.filter fun q => decide (lamp lp q = (k : Int))).length := rfl
      have hcb : cntL lp img k ≤ 10 * k := by
        clear hck
        induction k with
        | zero => exact Nat.le_refl _
        | succ k ih =>
          have h1 := ih (by omega)
          have h2 := List.length_filter_le (fun q => decide (lamp lp q = (k : Int))) img
          show cntL lp img k + _ ≤ _
          omega
      by_cases hlt : k < 4
      · have e1 := hBel k (by omega)
        have hpl := List.length_filter_le (fun q => decide (lamp lp q = (k : Int))) img
        have e2 := laws_a2Inside (a := img.filter fun q => decide (lamp lp q = (k : Int))) (b := img) (by omega) (by omega) fun q hq => (List.mem_filter.1 hq).1
        have hp : ∀ q ∈ img.filter (fun q => decide (lamp lp q = (k : Int))), (0 ≤ q ∧ q < s) ∧ lamp lp q = k := fun q hq => ⟨hi1 q (List.mem_filter.1 hq).1, by have := (List.mem_filter.1 hq).2; simpa using this⟩
        generalize img.filter (fun q => decide (lamp lp q = (k : Int))) = part at *
        have hpm : (part.map (D.int .i64)).length = part.length := by simp
        repeat (first | refine awp_seq ?_ | refine then_n ?_ | refine then_r ?_ | refine then_x ?_ | refine block_n ?_ | refine block_r ?_ | refine block_x ?_ | refine u_y ?_ | refine loop_r ?_ | refine loop_x ?_ | refine awp_region ?_ | refine awpL_nil ?_ | refine awpQL_nil ?_ | refine awp_block ?_ | refine awp_skip ?_ | refine awp_exit ?_ | refine awp_label ?_ | refine u_dT ?_ | refine u_d ?_ | ((first | apply c_l | apply c_q | apply c_lr | apply c_qr); (iterate 2 exact rfl); (focus (first | exact e1 | exact e2)); (iterate 2 exact rfl)) | (apply v_c; (iterate 4 exact rfl); (focus (first | exact e1 | exact e2)); (iterate 2 exact rfl)) | refine u_l ?_ | refine u_o ?_ | refine u_q ?_ | refine u_lr ?_ | refine u_qr ?_ | refine u_ls ?_ | refine u_qs ?_ | refine u_t ?_ | refine u_f ?_ | refine v_s ?_ | refine v_o ?_ | refine v_on ?_ | refine v_og ?_ | refine v_q ?_ | refine v_sr ?_ | refine v_k ?_ | refine m_nil ?_ | refine u_glt ?_ | refine u_glf ?_ | refine u_gqt ?_ | refine u_gqf ?_)
        refine awp_loop (fun i : Nat => i ≤ part.length) (fun i => [(5, .ref 5 0), (6, .d (ints set)), (7, .d (.int .i64 x)), (8, .d (ints img)), (10, .d (rows cls)), (11, .d (.int .i64 0)), (12, .d (.int .i64 (cntL lp img k : Nat))), (13, .d (.int .i64 k)), (14, .d (ints part)), (16, .d (.int .i64 i))]) (fun _ => [(5, .box [.d (.int .i64 s), .d (rows nx), .d (ints lp)])]) (fun i => part.length - i) 0 (by omega) ?_ rfl ?_
        · ((repeat (first | exact trivial | (refine ⟨?_, ?_⟩; (focus (first | rfl | (simp [lk, argsS, args0]; done) | (simp [lk, argsS, args0]; omega)))))))
        · intro i hi
          by_cases hil : i < part.length
          · have hx := el_int hil
            obtain ⟨⟨p1, p2⟩, p3⟩ := hp _ (List.getElem_mem hil)
            have hy : (lp.map (D.int .i64))[part[i].toNat]? = some (.int .i64 (k : Int)) := by
              have := el_int2 (ns := lp) (q := part[i]) (by omega)
              rw [show lp.getD part[i].toNat 0 = (k : Int) from p3] at this
              exact this
            generalize part[i] = q at *
            repeat (first | refine awp_seq ?_ | refine then_n ?_ | refine then_r ?_ | refine then_x ?_ | refine block_n ?_ | refine block_r ?_ | refine block_x ?_ | refine u_y ?_ | refine loop_r ?_ | refine loop_x ?_ | refine awp_region ?_ | refine awpL_nil ?_ | refine awpQL_nil ?_ | refine awp_block ?_ | refine awp_skip ?_ | refine awp_exit ?_ | refine awp_label ?_ | refine u_dT ?_ | refine u_d ?_ | refine u_l ?_ | refine u_o ?_ | refine u_q ?_ | refine u_lr ?_ | refine u_qr ?_ | refine u_ls ?_ | refine u_qs ?_ | refine u_t ?_ | refine u_f ?_ | refine v_s ?_ | refine v_o ?_ | refine v_on ?_ | refine v_og ?_ | refine v_q ?_ | refine v_sr ?_ | refine v_k ?_ | refine m_nil ?_ | refine u_glt ?_ | refine u_glf ?_ | refine u_gqt ?_ | refine u_gqf ?_)
            refine loop_n (i + 1) (by omega) ?_ rfl (by omega)
            ((repeat (first | exact trivial | (refine ⟨?_, ?_⟩; (focus (first | rfl | (simp [lk, argsS, args0]; done) | (simp [lk, argsS, args0]; omega)))))))
          · repeat (first | refine awp_seq ?_ | refine then_n ?_ | refine then_r ?_ | refine then_x ?_ | refine block_n ?_ | refine block_r ?_ | refine block_x ?_ | refine u_y ?_ | refine loop_r ?_ | refine loop_x ?_ | refine awp_region ?_ | refine awpL_nil ?_ | refine awpQL_nil ?_ | refine awp_block ?_ | refine awp_skip ?_ | refine awp_exit ?_ | refine awp_label ?_ | refine u_dT ?_ | refine u_d ?_ | refine u_l ?_ | refine u_o ?_ | refine u_q ?_ | refine u_lr ?_ | refine u_qr ?_ | refine u_ls ?_ | refine u_qs ?_ | refine u_t ?_ | refine u_f ?_ | refine v_s ?_ | refine v_o ?_ | refine v_on ?_ | refine v_og ?_ | refine v_q ?_ | refine v_sr ?_ | refine v_k ?_ | refine m_nil ?_)
            refine loop_n (k + 1) (by omega) ?_ rfl (by omega)
            rw [hck, Int.natCast_add, ← hpm]
            ((repeat (first | exact trivial | (refine ⟨?_, ?_⟩; (focus (first | rfl | (simp [lk, argsS, args0]; done) | (simp [lk, argsS, args0]; omega)))))))
      · have hk4 : k = 4 := by omega
        subst hk4
        rw [hcnt]
        repeat (first | refine awp_seq ?_ | refine then_n ?_ | refine then_r ?_ | refine then_x ?_ | refine block_n ?_ | refine block_r ?_ | refine block_x ?_ | refine u_y ?_ | refine loop_r ?_ | refine loop_x ?_ | refine awp_region ?_ | refine awpL_nil ?_ | refine awpQL_nil ?_ | refine awp_block ?_ | refine awp_skip ?_ | refine awp_exit ?_ | refine awp_label ?_ | refine u_dT ?_ | refine u_d ?_ | refine u_l ?_ | refine u_o ?_ | refine u_q ?_ | refine u_lr ?_ | refine u_qr ?_ | refine u_ls ?_ | refine u_qs ?_ | refine u_t ?_ | refine u_f ?_ | refine v_s ?_ | refine v_o ?_ | refine v_on ?_ | refine v_og ?_ | refine v_q ?_ | refine v_sr ?_ | refine v_k ?_ | refine m_nil ?_)
        refine awp_loop (fun i : Nat => i ≤ cls.length) (fun i => [(5, .ref 5 0), (6, .d (ints set)), (7, .d (.int .i64 x)), (8, .d (ints img)), (10, .d (rows cls)), (11, .d (.int .i64 0)), (12, .d (.int .i64 (img.length : Nat))), (17, .d (.int .i64 (((cls.take i).map List.length).sum : Nat))), (18, .d (.int .i64 i))]) (fun _ => [(5, .box [.d (.int .i64 s), .d (rows nx), .d (ints lp)])]) (fun i => cls.length - i) 0 (by omega) ?_ rfl ?_
        · ((repeat (first | exact trivial | (refine ⟨?_, ?_⟩; (focus (first | rfl | (simp [lk, argsS, args0]; done) | (simp [lk, argsS, args0]; omega)))))))
        · intro i hi
          have hclm : (cls.map ints).length = cls.length := by simp
          have hsb : ((cls.take i).map List.length).sum ≤ s.toNat := by
            rw [← hsum]
            conv => rhs; rw [← List.take_append_drop i cls, List.map_append, List.sum_append]
            omega
          by_cases hil : i < cls.length
          · have hr := el_row hil
            have h1 := hne _ (List.getElem_mem hil)
            have h2 := hcm _ (List.getElem_mem hil)
            have hst : ((cls.take (i + 1)).map List.length).sum = ((cls.take i).map List.length).sum + cls[i].length := by rw [List.take_succ_eq_append_getElem hil, List.map_append, List.sum_append]; simp only [List.map_cons, List.map_nil, List.sum_cons, List.sum_nil, Nat.add_zero]
            generalize cls[i] = c at *
            have hcc : (c.map (D.int .i64)).length = c.length := by simp
            repeat (first | refine awp_seq ?_ | refine then_n ?_ | refine then_r ?_ | refine then_x ?_ | refine block_n ?_ | refine block_r ?_ | refine block_x ?_ | refine u_y ?_ | refine loop_r ?_ | refine loop_x ?_ | refine awp_region ?_ | refine awpL_nil ?_ | refine awpQL_nil ?_ | refine awp_block ?_ | refine awp_skip ?_ | refine awp_exit ?_ | refine awp_label ?_ | refine u_dT ?_ | refine u_d ?_ | refine u_l ?_ | refine u_o ?_ | refine u_q ?_ | refine u_lr ?_ | refine u_qr ?_ | refine u_ls ?_ | refine u_qs ?_ | refine u_t ?_ | refine u_f ?_ | refine v_s ?_ | refine v_o ?_ | refine v_on ?_ | refine v_og ?_ | refine v_q ?_ | refine v_sr ?_ | refine v_k ?_ | refine m_nil ?_)
            refine loop_n (i + 1) (by omega) ?_ rfl (by omega)
            rw [hst, Int.natCast_add, ← hcc]
            ((repeat (first | exact trivial | (refine ⟨?_, ?_⟩; (focus (first | rfl | (simp [lk, argsS, args0]; done) | (simp [lk, argsS, args0]; omega)))))))
          · have hic : i = cls.length := by omega
            subst hic
            rw [List.take_length, hsum]
            have hfin : ((s.toNat : Nat) : Int) = s := by omega
            have hfi : (img.length : Int) = ((img.map (D.int .i64)).length : Nat) := by omega
            repeat (first | refine awp_seq ?_ | refine then_n ?_ | refine then_r ?_ | refine then_x ?_ | refine block_n ?_ | refine block_r ?_ | refine block_x ?_ | refine u_y ?_ | refine loop_r ?_ | refine loop_x ?_ | refine awp_region ?_ | refine awpL_nil ?_ | refine awpQL_nil ?_ | refine awp_block ?_ | refine awp_skip ?_ | refine awp_exit ?_ | refine awp_label ?_ | refine u_dT ?_ | refine u_d ?_ | refine u_l ?_ | refine u_o ?_ | refine u_q ?_ | refine u_lr ?_ | refine u_qr ?_ | refine u_ls ?_ | refine u_qs ?_ | refine u_t ?_ | refine u_f ?_ | refine v_s ?_ | refine v_o ?_ | refine v_on ?_ | refine v_og ?_ | refine v_q ?_ | refine v_sr ?_ | refine v_k ?_ | refine m_nil ?_ | refine u_glt ?_ | refine u_glf ?_ | refine u_gqt ?_ | refine u_gqf ?_)
            (refine awp_ret ?_; (repeat (first | refine then_r ?_ | refine block_r ?_ | refine loop_r ?_)); apply ret_ok (.inr rfl); (focus exact rfl))
            simp [hfin]
end Go.Proofs.Ytampglcgipefnaa
