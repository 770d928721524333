/- Contracts of machines: outputs, words, images. Printed by genmu.py. No condition. -/
import Derived.Test.YtffmlijngfhhaaaGreatDoorKf
import Derived.Test.YtffmlijngfhhaaaGreatDoorRa
namespace Go.Proofs.YtffmlijngfhhaaaGreatDoor
open Go
attribute [local irreducible] awp awpL awpQL awpQ awpM pWalk Qt AC thenQ blockQ loopQ OpTo
set_option linter.unusedVariables false
set_option linter.unusedSimpArgs false
set_option maxHeartbeats 2000000
attribute [local irreducible] HC

section
variable {s s' o : Int} {nx ou nx' ou' : List (List Int)}
theorem impl_isStateM {q : Int} (hs : 1 ≤ s ∧ s ≤ 1000) : AC Tryz.prog 61 [mach s o nx ou, .int .i64 q] (.bool (inB q 0 (s - 1))) := by
  have e1 := impl_within (n := q) (lo := 0) (hi := s - 1)
  unfold mach
  refine ac_intro tabIs _ Tryz.func61 rfl rfl Tryz.ntmps61 rfl rfl fun w0 ok0 he0 => ?_
  repeat (first | refine awp_seq ?_ | refine then_n ?_ | refine then_r ?_ | refine then_x ?_ | refine block_n ?_ | refine block_r ?_ | refine block_x ?_ | refine u_y ?_ | refine loop_r ?_ | refine loop_x ?_ | refine awp_region ?_ | refine awpL_nil ?_ | refine awpQL_nil ?_ | refine awp_block ?_ | refine awp_skip ?_ | refine awp_exit ?_ | refine awp_label ?_ | refine u_dT ?_ | refine u_d ?_ | ((first | apply c_l | apply c_q | apply c_lr | apply c_qr); (iterate 2 exact rfl); (focus (first | exact e1)); (iterate 2 exact rfl)) | (apply v_c; (iterate 4 exact rfl); (focus (first | exact e1)); (iterate 2 exact rfl)) | refine u_l ?_ | refine u_o ?_ | refine u_q ?_ | refine u_lr ?_ | refine u_qr ?_ | refine u_ls ?_ | refine u_qs ?_ | refine u_t ?_ | refine u_f ?_ | refine v_s ?_ | refine v_o ?_ | refine v_on ?_ | refine v_og ?_ | refine v_q ?_ | refine v_sr ?_ | refine v_k ?_ | refine m_nil ?_)
  (refine awp_ret ?_; (repeat (first | refine then_r ?_ | refine block_r ?_ | refine loop_r ?_)); apply ret_ok (.inr rfl); (focus exact rfl))
  rfl
theorem impl_OutputsOf1M {q : Int} {w : List Int} (m : MV s o nx ou) (hq : 0 ≤ q ∧ q < s) (hw : w.length ≤ 400) (hl : ∀ l ∈ w, 0 ≤ l ∧ l < nx.length) : AC Tryz.prog 60 [.ptr (mach s o nx ou), .ptr (.int .i64 q), .ptr (ints w)] (.bool true) := by
  have hs := m.s1
  have e1 := impl_isStateM (o := o) (q := q) (nx := nx) (ou := ou) (s := s) (by omega)
  have e2 := impl_isWord (s := s) (o := o) (nx := nx) (ou := ou) (w := w) (by have := m.n1; omega) (by omega)
  rw [show inB q 0 (s - 1) = true by simp [inB]; omega] at e1
  rw [wordOk_of hw hl] at e2
  refine ac_intro tabIs _ Tryz.func60 rfl rfl Tryz.ntmps60 rfl rfl fun w0 ok0 he0 => ?_
  repeat (first | refine awp_seq ?_ | refine then_n ?_ | refine then_r ?_ | refine then_x ?_ | refine block_n ?_ | refine block_r ?_ | refine block_x ?_ | refine u_y ?_ | refine loop_r ?_ | refine loop_x ?_ | refine awp_region ?_ | refine awpL_nil ?_ | refine awpQL_nil ?_ | refine awp_block ?_ | refine awp_skip ?_ | refine awp_exit ?_ | refine awp_label ?_ | refine u_dT ?_ | refine u_d ?_ | ((first | apply c_l | apply c_q | apply c_lr | apply c_qr); (iterate 2 exact rfl); (focus (first | exact e1 | exact e2)); (iterate 2 exact rfl)) | (apply v_c; (iterate 4 exact rfl); (focus (first | exact e1 | exact e2)); (iterate 2 exact rfl)) | refine u_l ?_ | refine u_o ?_ | refine u_q ?_ | refine u_lr ?_ | refine u_qr ?_ | refine u_ls ?_ | refine u_qs ?_ | refine u_t ?_ | refine u_f ?_ | refine v_s ?_ | refine v_o ?_ | refine v_on ?_ | refine v_og ?_ | refine v_q ?_ | refine v_sr ?_ | refine v_k ?_ | refine m_nil ?_)
  (refine awp_ret ?_; (repeat (first | refine then_r ?_ | refine block_r ?_ | refine loop_r ?_)); apply ret_ok (.inr rfl); (focus exact rfl))
  rfl
theorem impl_OutputsOfM {q : Int} {w : List Int} (m : MV s o nx ou) (hq : 0 ≤ q ∧ q < s) (hw : w.length ≤ 400) (hl : ∀ l ∈ w, 0 ≤ l ∧ l < nx.length) :
    AC Tryz.prog 22 [mach s o nx ou, .int .i64 q, ints w] (.tup [ints (runO nx ou q w), .int .i64 (runS nx q w), .int .i64 0]) := by
  have e1 := impl_code (s := s) (o := o) (g := 60) (cap := [.ptr (mach s o nx ou), .ptr (.int .i64 q), .ptr (ints w)]) m.rnx m.rou fun _ => impl_OutputsOf1M m hq hw hl
  rw [machOk_mv m] at e1
  have e2 := impl_outputs m hq hw hl
  refine ac_intro tabIs _ Tryz.func22 rfl rfl Tryz.ntmps22 rfl rfl fun w0 ok0 he0 => ?_
  repeat (first | refine awp_seq ?_ | refine then_n ?_ | refine then_r ?_ | refine then_x ?_ | refine block_n ?_ | refine block_r ?_ | refine block_x ?_ | refine u_y ?_ | refine loop_r ?_ | refine loop_x ?_ | refine awp_region ?_ | refine awpL_nil ?_ | refine awpQL_nil ?_ | refine awp_block ?_ | refine awp_skip ?_ | refine awp_exit ?_ | refine awp_label ?_ | refine u_dT ?_ | refine u_d ?_ | ((first | apply c_l | apply c_q | apply c_lr | apply c_qr); (iterate 2 exact rfl); (focus (first | exact e1 | exact e2)); (iterate 2 exact rfl)) | (apply v_c; (iterate 4 exact rfl); (focus (first | exact e1 | exact e2)); (iterate 2 exact rfl)) | refine u_l ?_ | refine u_o ?_ | refine u_q ?_ | refine u_lr ?_ | refine u_qr ?_ | refine u_ls ?_ | refine u_qs ?_ | refine u_t ?_ | refine u_f ?_ | refine v_s ?_ | refine v_o ?_ | refine v_on ?_ | refine v_og ?_ | refine v_q ?_ | refine v_sr ?_ | refine v_k ?_ | refine m_nil ?_)
  (refine awp_ret ?_; (repeat (first | refine then_r ?_ | refine block_r ?_ | refine loop_r ?_)); apply ret_ok (.inr rfl); (focus exact rfl))
  rfl
end
theorem spec_P6WordHM {code : List Int} {L most : Int} (hb : BytesOk code) (hL : 1 ≤ L ∧ L ≤ 100) (hm : 0 ≤ most ∧ most ≤ 100) :
    HC Tryz.prog 20 [.d (u8s code), .d (.int .i64 L), .d (.int .i64 most)] [] (.own 30000) [(30000, .arr 2 1 ((psW code L (pickS code (most + 1) ⟨0, 0⟩) (pickV code (most + 1) ⟨0, 0⟩).toNat).1.map (.int .i64)))] := by
  have c0 := spec_From (code := code)
  have hP : ∀ (s : Src) (k : Nat) (n : Int), SOk s k → k ≤ 999999990 → n ≤ 1000 → HC Tryz.prog 58 [.ref 10000 0, .d (.int .i64 n)] [(10000, srcB code s)] (.d (.int .i64 (pickV code n s))) [(10000, srcB code (pickS code n s))] := fun s k n a b c => spec_pick hb a b (by omega)
  have k0 : SOk (⟨0, 0⟩ : Src) 0 := ⟨Nat.le_refl _, by simp⟩
  have c1 := hP _ _ (most + 1) k0 (by omega) (by omega)
  have hr := pick_range (s := ⟨0, 0⟩) (n := most + 1) hb (by omega)
  have hk1 := pick_ok (code := code) (n := most + 1) k0
  generalize pickV code (most + 1) ⟨0, 0⟩ = W at *
  generalize pickS code (most + 1) ⟨0, 0⟩ = s2 at *
  unfold srcB at c0 c1 hP
  unfold u8s at *
  refine hc_intro tabIs _ Tryz.func20 rfl rfl Tryz.ntmps20 rfl rfl rfl ?_ fun w0 ok0 XM XA anc he0 hX0 => ?_
  · exact likeIn_nil
  repeat (first | refine awp_seq ?_ | refine then_n ?_ | refine then_r ?_ | refine then_x ?_ | refine block_n ?_ | refine block_r ?_ | refine block_x ?_ | refine u_y ?_ | refine loop_r ?_ | refine loop_x ?_ | refine awp_region ?_ | refine awpL_nil ?_ | refine awpQL_nil ?_ | refine awp_block ?_ | refine awp_skip ?_ | refine awp_exit ?_ | refine awp_label ?_ | refine u_dT ?_ | refine u_d ?_ | refine u_l ?_ | refine u_o ?_ | refine u_q ?_ | refine u_lr ?_ | refine u_qr ?_ | refine u_ls ?_ | refine u_qs ?_ | refine u_t ?_ | refine u_f ?_ | refine v_s ?_ | refine v_o ?_ | refine v_on ?_ | refine v_og ?_ | refine v_q ?_ | refine v_sr ?_ | refine v_k ?_ | refine m_nil ?_)
  refine hcl [] [(30000, 500)] c0 ?_
  repeat (first | refine v_w (t := 12) ?_ | refine awp_seq ?_ | refine then_n ?_ | refine then_r ?_ | refine then_x ?_ | refine block_n ?_ | refine block_r ?_ | refine block_x ?_ | refine u_y ?_ | refine loop_r ?_ | refine loop_x ?_ | refine awp_region ?_ | refine awpL_nil ?_ | refine awpQL_nil ?_ | refine awp_block ?_ | refine awp_skip ?_ | refine awp_exit ?_ | refine awp_label ?_ | refine u_dT ?_ | refine u_d ?_ | refine u_w (t := 12) ?_ | refine u_l ?_ | refine u_o ?_ | refine u_q ?_ | refine u_lr ?_ | refine u_qr ?_ | refine u_ls ?_ | refine u_qs ?_ | refine u_t ?_ | refine u_f ?_ | refine v_s ?_ | refine v_o ?_ | refine v_on ?_ | refine v_og ?_ | refine v_q ?_ | refine v_sr ?_ | refine v_k ?_ | refine m_nil ?_)
  refine hcl [(500, 10000)] [(10000, 500)] c1 ?_
  repeat (first | refine awp_seq ?_ | refine then_n ?_ | refine then_r ?_ | refine then_x ?_ | refine block_n ?_ | refine block_r ?_ | refine block_x ?_ | refine u_y ?_ | refine loop_r ?_ | refine loop_x ?_ | refine awp_region ?_ | refine awpL_nil ?_ | refine awpQL_nil ?_ | refine awp_block ?_ | refine awp_skip ?_ | refine awp_exit ?_ | refine awp_label ?_ | refine u_dT ?_ | refine u_d ?_ | refine u_l ?_ | refine u_o ?_ | refine u_q ?_ | refine u_lr ?_ | refine u_qr ?_ | refine u_ls ?_ | refine u_qs ?_ | refine u_t ?_ | refine u_f ?_ | refine v_s ?_ | refine v_o ?_ | refine v_on ?_ | refine v_og ?_ | refine v_q ?_ | refine v_sr ?_ | refine v_k ?_ | refine m_nil ?_)
  refine awp_perm _ rfl ?_
  refine awp_loop (fun i : Nat => (i : Int) ≤ W) (fun i => [(1, .d (.int .i64 L)), (7, .ref 500 0), (8, .own 12), (9, .d (.int .i64 (W - i)))])
    (fun i => [(12, .arr 2 1 ((psW code L s2 i).1.map (.int .i64))), (500, srcB code (psW code L s2 i).2)]) (fun i => W.toNat - i) 0 (by omega) ?_ (by as_aux_lemma => kernel_rfl) ?_
  · refine ⟨rfl, rfl, rfl, ?_, trivial⟩
    show SV.d (.int .i64 W) = SV.d (.int .i64 (W - ((0 : Nat) : Int)))
    simp
  · intro i hi
    have hkw := psW_ok (code := code) (L := L) hk1 i
    have hlw2 := psW_len (code := code) (L := L) (s := s2) i
    have hlw : ((psW code L s2 i).1.map (D.int .i64)).length = i := by rw [List.length_map, psW_len]
    by_cases hil : (i : Int) < W
    · have q2 := hP _ _ L hkw (by omega) (by omega)
      have hsw : psW code L s2 (i + 1) = ((psW code L s2 i).1 ++ [pickV code L (psW code L s2 i).2], pickS code L (psW code L s2 i).2) := rfl
      generalize psW code L s2 i = t at *
      have hni : W - i - 1 = W - ((i + 1 : Nat) : Int) := by omega
      repeat (first | refine awp_seq ?_ | refine then_n ?_ | refine then_r ?_ | refine then_x ?_ | refine block_n ?_ | refine block_r ?_ | refine block_x ?_ | refine u_y ?_ | refine loop_r ?_ | refine loop_x ?_ | refine awp_region ?_ | refine awpL_nil ?_ | refine awpQL_nil ?_ | refine awp_block ?_ | refine awp_skip ?_ | refine awp_exit ?_ | refine awp_label ?_ | refine u_dT ?_ | refine u_d ?_ | refine u_l ?_ | refine u_o ?_ | refine u_q ?_ | refine u_lr ?_ | refine u_qr ?_ | refine u_ls ?_ | refine u_qs ?_ | refine u_t ?_ | refine u_f ?_ | refine v_s ?_ | refine v_o ?_ | refine v_on ?_ | refine v_og ?_ | refine v_q ?_ | refine v_sr ?_ | refine v_k ?_ | refine m_nil ?_)
      refine hcl [(500, 10000)] [(10000, 500)] q2 ?_
      repeat (first | refine awp_seq ?_ | refine then_n ?_ | refine then_r ?_ | refine then_x ?_ | refine block_n ?_ | refine block_r ?_ | refine block_x ?_ | refine u_y ?_ | refine loop_r ?_ | refine loop_x ?_ | refine awpL_nil ?_ | refine awpQL_nil ?_ | refine awp_block ?_ | refine awp_skip ?_ | refine awp_exit ?_ | refine awp_label ?_ | refine u_dT ?_ | refine u_d ?_ | refine u_l ?_ | refine u_o ?_ | refine u_q ?_ | refine u_lr ?_ | refine u_qr ?_ | refine u_ls ?_ | refine u_qs ?_ | refine u_t ?_ | refine u_f ?_ | refine v_s ?_ | refine v_o ?_ | refine v_on ?_ | refine v_og ?_ | refine v_q ?_ | refine v_sr ?_ | refine v_k ?_ | refine m_nil ?_)
      refine awp_perm _ rfl ?_
      repeat (first | refine awp_seq ?_ | refine then_n ?_ | refine then_r ?_ | refine then_x ?_ | refine block_n ?_ | refine block_r ?_ | refine block_x ?_ | refine u_y ?_ | refine loop_r ?_ | refine loop_x ?_ | refine awp_region ?_ | refine awpL_nil ?_ | refine awpQL_nil ?_ | refine awp_block ?_ | refine awp_skip ?_ | refine awp_exit ?_ | refine awp_label ?_ | refine u_dT ?_ | refine u_d ?_ | refine u_l ?_ | refine u_o ?_ | refine u_q ?_ | refine u_lr ?_ | refine u_qr ?_ | refine u_ls ?_ | refine u_qs ?_ | refine u_t ?_ | refine u_f ?_ | refine v_s ?_ | refine v_o ?_ | refine v_on ?_ | refine v_og ?_ | refine v_q ?_ | refine v_sr ?_ | refine v_k ?_ | refine m_nil ?_)
      refine loop_n (i + 1) (by omega) ?_ ?_ (by omega)
      · rw [← hni]; ((repeat (first | exact trivial | (refine ⟨?_, ?_⟩; (focus (first | rfl | (simp [lk, argsS, args0]; done) | (simp [lk, argsS, args0]; omega)))))))
      · rw [hsw]; simp only [List.map_append]; (as_aux_lemma => kernel_rfl)
    · have hiW : i = W.toNat := by omega
      subst hiW
      repeat (first | refine awp_seq ?_ | refine then_n ?_ | refine then_r ?_ | refine then_x ?_ | refine block_n ?_ | refine block_r ?_ | refine block_x ?_ | refine u_y ?_ | refine loop_r ?_ | refine loop_x ?_ | refine awp_region ?_ | refine awpL_nil ?_ | refine awpQL_nil ?_ | refine awp_block ?_ | refine awp_skip ?_ | refine awp_exit ?_ | refine awp_label ?_ | refine u_dT ?_ | refine u_d ?_ | refine u_l ?_ | refine u_o ?_ | refine u_q ?_ | refine u_lr ?_ | refine u_qr ?_ | refine u_ls ?_ | refine u_qs ?_ | refine u_t ?_ | refine u_f ?_ | refine v_s ?_ | refine v_o ?_ | refine v_on ?_ | refine v_og ?_ | refine v_q ?_ | refine v_sr ?_ | refine v_k ?_ | refine m_nil ?_)
      (refine awp_ret ?_; (repeat (first | refine then_r ?_ | refine block_r ?_ | refine loop_r ?_)); refine u_rH [(12, 30000)] ?_ ?_)
      · rfl
      · rfl
theorem spec_P6WordAM {code : List Int} {L most : Int} (hb : BytesOk code) (hL : 1 ≤ L ∧ L ≤ 100) (hm : 0 ≤ most ∧ most ≤ 100) : ∃ v : List Int, v.length ≤ most.toNat ∧ (∀ l ∈ v, 0 ≤ l ∧ l < L) ∧ AC Tryz.prog 20 [u8s code, .int .i64 L, .int .i64 most] (ints v) := by
  have hr := pick_range (s := ⟨0, 0⟩) (n := most + 1) hb (by omega)
  refine ⟨_, ?_, psW_el (s := pickS code (most + 1) ⟨0, 0⟩) hb hL.1 (pickV code (most + 1) ⟨0, 0⟩).toNat, ac_of_hc (xs := [u8s code, .int .i64 L, .int .i64 most]) (spec_P6WordHM hb hL hm) rfl⟩
  rw [psW_len]
  omega
theorem incr_lenM {l : List Int} (h : l.Pairwise (· < ·)) : ∀ lo : Int, (∀ q ∈ l, lo ≤ q ∧ q ≤ 9) → (l.length : Int) ≤ max 0 (10 - lo) := by
  induction l with
  | nil => intro lo _; simp; omega
  | cons x l ih =>
    intro lo hl
    have hp' := List.pairwise_cons.1 h
    have hx := hl x (List.mem_cons_self ..)
    have := ih hp'.2 (x + 1) (fun q hq => ⟨by have := hp'.1 q hq; omega, (hl q (List.mem_cons_of_mem _ hq)).2⟩)
    simp only [List.length_cons]
    omega
theorem ris_le10M {s : Int} {l : List Int} (hs : s ≤ 10) (h1 : ∀ q ∈ l, 0 ≤ q ∧ q < s) (h2 : l.Pairwise (· < ·)) : l.length ≤ 10 := by
  have := incr_lenM h2 0 fun q hq => by have := h1 q hq; omega
  omega
theorem risB_ofM {l : List Int} {hi : Int} (h1 : ∀ q ∈ l, 0 ≤ q ∧ q ≤ hi) (h2 : l.Pairwise (· < ·)) : risB l hi = true := risB_true fun k hk => by
  have hg : ∀ j, (hj : j < l.length) → l.getD j 0 = l[j] := fun j hj => by rw [List.getD_eq_getElem?_getD, List.getElem?_eq_getElem hj]; rfl
  unfold risAt
  have hm := h1 _ (List.getElem_mem hk)
  rw [hg k hk]
  by_cases h0 : k = 0
  · simp [inB, h0] at hm ⊢
    subst h0
    exact hm
  · have := List.pairwise_iff_getElem.1 h2 (k - 1) k (by omega) hk (by omega)
    rw [hg (k - 1) (by omega)]
    simp [inB, this]
    exact hm
theorem impl_codeAM {s : Int} {nx : List (List Int)} {g : Nat} {cap : List D} {b : Bool} (h1 : RowsOk nx) (hv : autoOk s nx = true) (hg : AC Tryz.prog g cap (.bool b)) : AC Tryz.prog 77 [.agg [.int .i64 s, rows nx], .fn g cap] (.int .i64 (if b then 0 else 2)) := by
  have e1 := impl_ValidAutomaton (s := s) h1
  rw [hv] at e1
  cases b with
  | true =>
    refine ac_intro tabIs _ Tryz.func77 rfl rfl Tryz.ntmps77 rfl rfl fun w0 ok0 he0 => ?_
    repeat (first | refine awp_seq ?_ | refine then_n ?_ | refine then_r ?_ | refine then_x ?_ | refine block_n ?_ | refine block_r ?_ | refine block_x ?_ | refine u_y ?_ | refine loop_r ?_ | refine loop_x ?_ | refine awp_region ?_ | refine awpL_nil ?_ | refine awpQL_nil ?_ | refine awp_block ?_ | refine awp_skip ?_ | refine awp_exit ?_ | refine awp_label ?_ | refine u_dT ?_ | refine u_d ?_ | ((first | apply c_l | apply c_q | apply c_lr | apply c_qr); (iterate 2 exact rfl); (focus (first | exact e1 | exact hg)); (iterate 2 exact rfl)) | (apply v_c; (iterate 4 exact rfl); (focus (first | exact e1 | exact hg)); (iterate 2 exact rfl)) | refine u_l ?_ | refine u_o ?_ | refine u_q ?_ | refine u_lr ?_ | refine u_qr ?_ | refine u_ls ?_ | refine u_qs ?_ | refine u_t ?_ | refine u_f ?_ | refine v_s ?_ | refine v_o ?_ | refine v_on ?_ | refine v_og ?_ | refine v_q ?_ | refine v_sr ?_ | refine v_k ?_ | refine m_nil ?_)
    (refine awp_ret ?_; (repeat (first | refine then_r ?_ | refine block_r ?_ | refine loop_r ?_)); apply ret_ok (.inr rfl); (focus exact rfl))
    rfl
  | false =>
    refine ac_intro tabIs _ Tryz.func77 rfl rfl Tryz.ntmps77 rfl rfl fun w0 ok0 he0 => ?_
    repeat (first | refine awp_seq ?_ | refine then_n ?_ | refine then_r ?_ | refine then_x ?_ | refine block_n ?_ | refine block_r ?_ | refine block_x ?_ | refine u_y ?_ | refine loop_r ?_ | refine loop_x ?_ | refine awp_region ?_ | refine awpL_nil ?_ | refine awpQL_nil ?_ | refine awp_block ?_ | refine awp_skip ?_ | refine awp_exit ?_ | refine awp_label ?_ | refine u_dT ?_ | refine u_d ?_ | ((first | apply c_l | apply c_q | apply c_lr | apply c_qr); (iterate 2 exact rfl); (focus (first | exact e1 | exact hg)); (iterate 2 exact rfl)) | (apply v_c; (iterate 4 exact rfl); (focus (first | exact e1 | exact hg)); (iterate 2 exact rfl)) | refine u_l ?_ | refine u_o ?_ | refine u_q ?_ | refine u_lr ?_ | refine u_qr ?_ | refine u_ls ?_ | refine u_qs ?_ | refine u_t ?_ | refine u_f ?_ | refine v_s ?_ | refine v_o ?_ | refine v_on ?_ | refine v_og ?_ | refine v_q ?_ | refine v_sr ?_ | refine v_k ?_ | refine m_nil ?_)
    (refine awp_ret ?_; (repeat (first | refine then_r ?_ | refine block_r ?_ | refine loop_r ?_)); apply ret_ok (.inr rfl); (focus exact rfl))
    rfl
theorem autoOk_ofM {s : Int} {nx : List (List Int)} {lp : List Int} (hv : litOk s nx lp = true) : autoOk s nx = true := by
  simp only [litOk, Bool.and_eq_true] at hv
  exact hv.1
theorem rowsOkLM {s : Int} {nx : List (List Int)} {lp : List Int} (v : LV s nx lp) : RowsOk nx := by
  have hs := v.s1
  have hn := v.n1
  refine ⟨fun ns h => ⟨fun q hq => ?_, ?_⟩, by omega⟩
  · have := (v.nx ns h).2 q hq
    unfold I64
    omega
  · have := (v.nx ns h).1
    omega
theorem impl_ImageOfM {s : Int} {nx : List (List Int)} {lp l w : List Int} (hv : litOk s nx lp = true) (hl : ∀ q ∈ l, 0 ≤ q ∧ q < s) (hr : l.Pairwise (· < ·)) (hwl : w.length ≤ 400) (hwa : ∀ x ∈ w, 0 ≤ x ∧ x < nx.length) :
    AC Tryz.prog 28 [.agg [.int .i64 s, rows nx], ints l, ints w] (.tup [ints (imgL nx l w), .int .i64 0]) := by
  have v := lv_of hv
  have hs := v.s1
  have hn := v.n1
  have hl10 := ris_le10M hs.2 hl hr
  have e1 := impl_isSet (l := l) (b := s) (by omega) (by omega)
  rw [risB_ofM (fun q hq => by have := hl q hq; omega) hr] at e1
  have e2 := impl_isWordA (s := s) (nx := nx) (w := w) (by omega) (by omega)
  rw [show wordOk nx.length w = true by simp only [wordOk, allIn, inB, Bool.and_eq_true, List.all_eq_true, decide_eq_true_eq]; exact ⟨by omega, fun x hx => by have := hwa x hx; omega⟩] at e2
  have e3 : AC Tryz.prog 78 [.ptr (ints l), .ptr (.agg [.int .i64 s, rows nx]), .ptr (ints w)] (.bool true) := by
    refine ac_intro tabIs _ Tryz.func78 rfl rfl Tryz.ntmps78 rfl rfl fun w0 ok0 he0 => ?_
    repeat (first | refine awp_seq ?_ | refine then_n ?_ | refine then_r ?_ | refine then_x ?_ | refine block_n ?_ | refine block_r ?_ | refine block_x ?_ | refine u_y ?_ | refine loop_r ?_ | refine loop_x ?_ | refine awp_region ?_ | refine awpL_nil ?_ | refine awpQL_nil ?_ | refine awp_block ?_ | refine awp_skip ?_ | refine awp_exit ?_ | refine awp_label ?_ | refine u_dT ?_ | refine u_d ?_ | ((first | apply c_l | apply c_q | apply c_lr | apply c_qr); (iterate 2 exact rfl); (focus (first | exact e1 | exact e2)); (iterate 2 exact rfl)) | (apply v_c; (iterate 4 exact rfl); (focus (first | exact e1 | exact e2)); (iterate 2 exact rfl)) | refine u_l ?_ | refine u_o ?_ | refine u_q ?_ | refine u_lr ?_ | refine u_qr ?_ | refine u_ls ?_ | refine u_qs ?_ | refine u_t ?_ | refine u_f ?_ | refine v_s ?_ | refine v_o ?_ | refine v_on ?_ | refine v_og ?_ | refine v_q ?_ | refine v_sr ?_ | refine v_k ?_ | refine m_nil ?_ | refine u_glt ?_ | refine u_glf ?_ | refine u_gqt ?_ | refine u_gqf ?_)
    (refine awp_ret ?_; (repeat (first | refine then_r ?_ | refine block_r ?_ | refine loop_r ?_)); apply ret_ok (.inr rfl); (focus exact rfl))
    rfl
  have e4 := impl_codeAM (s := s) (nx := nx) (rowsOkLM v) (autoOk_ofM hv) e3
  have e5 := impl_image (lp := lp) (l := l) (w := w) v hl (by omega) hwl hwa
  refine ac_intro tabIs _ Tryz.func28 rfl rfl Tryz.ntmps28 rfl rfl fun w0 ok0 he0 => ?_
  repeat (first | refine awp_seq ?_ | refine then_n ?_ | refine then_r ?_ | refine then_x ?_ | refine block_n ?_ | refine block_r ?_ | refine block_x ?_ | refine u_y ?_ | refine loop_r ?_ | refine loop_x ?_ | refine awp_region ?_ | refine awpL_nil ?_ | refine awpQL_nil ?_ | refine awp_block ?_ | refine awp_skip ?_ | refine awp_exit ?_ | refine awp_label ?_ | refine u_dT ?_ | refine u_d ?_ | ((first | apply c_l | apply c_q | apply c_lr | apply c_qr); (iterate 2 exact rfl); (focus (first | exact e4 | exact e5)); (iterate 2 exact rfl)) | (apply v_c; (iterate 4 exact rfl); (focus (first | exact e4 | exact e5)); (iterate 2 exact rfl)) | refine u_l ?_ | refine u_o ?_ | refine u_q ?_ | refine u_lr ?_ | refine u_qr ?_ | refine u_ls ?_ | refine u_qs ?_ | refine u_t ?_ | refine u_f ?_ | refine v_s ?_ | refine v_o ?_ | refine v_on ?_ | refine v_og ?_ | refine v_q ?_ | refine v_sr ?_ | refine v_k ?_ | refine m_nil ?_)
  (refine awp_ret ?_; (repeat (first | refine then_r ?_ | refine block_r ?_ | refine loop_r ?_)); apply ret_ok (.inr rfl); (focus exact rfl))
  rfl
theorem slIdxM {l : List Int} {q : Int} {k0 : Nat} (hn : l.length ≤ 9223372036854775807) (h0 : k0 < l.length) (hq : l[k0] = q) (hmin : ∀ d, (h : d < k0) → ¬ l[d] = q) : AC Tryz.prog 131 [ints l, .int .i64 q] (.int .i64 k0) := by
  have hle : (List.map (D.int IntKind.i64) l).length = l.length := by simp
  refine ac_intro tabIs _ Tryz.func131 rfl rfl Tryz.ntmps131 rfl rfl fun w0 ok0 he0 => ?_
  repeat (first | refine awp_seq ?_ | refine then_n ?_ | refine then_r ?_ | refine then_x ?_ | refine block_n ?_ | refine block_r ?_ | refine block_x ?_ | refine u_y ?_ | refine loop_r ?_ | refine loop_x ?_ | refine awp_region ?_ | refine awpL_nil ?_ | refine awpQL_nil ?_ | refine awp_block ?_ | refine awp_skip ?_ | refine awp_exit ?_ | refine awp_label ?_ | refine u_dT ?_ | refine u_d ?_ | refine u_l ?_ | refine u_o ?_ | refine u_q ?_ | refine u_lr ?_ | refine u_qr ?_ | refine u_ls ?_ | refine u_qs ?_ | refine u_t ?_ | refine u_f ?_ | refine v_s ?_ | refine v_o ?_ | refine v_on ?_ | refine v_og ?_ | refine v_q ?_ | refine v_sr ?_ | refine v_k ?_ | refine m_nil ?_)
  refine awp_loop (fun k : Nat => k ≤ k0) (fun k => [(0, .d (ints l)), (1, .d (.int .i64 q)), (7, .d (.int .i64 l.length)), (8, .d (.int .i64 k))]) (fun _ => []) (fun k => l.length - k) 0 (by omega) ?_ rfl ?_
  · refine ⟨rfl, rfl, ?_, rfl, trivial⟩
    simp [lk, args0]
  · intro k hk
    have hlt : k < l.length := by omega
    have hx := el_int hlt
    by_cases e : k < k0
    · have hne := hmin k e
      have hne2 : ¬ q = l[k] := fun h => hne h.symm
      repeat (first | refine awp_seq ?_ | refine then_n ?_ | refine then_r ?_ | refine then_x ?_ | refine block_n ?_ | refine block_r ?_ | refine block_x ?_ | refine u_y ?_ | refine loop_r ?_ | refine loop_x ?_ | refine awp_region ?_ | refine awpL_nil ?_ | refine awpQL_nil ?_ | refine awp_block ?_ | refine awp_skip ?_ | refine awp_exit ?_ | refine awp_label ?_ | refine u_dT ?_ | refine u_d ?_ | refine u_l ?_ | refine u_o ?_ | refine u_q ?_ | refine u_lr ?_ | refine u_qr ?_ | refine u_ls ?_ | refine u_qs ?_ | refine u_t ?_ | refine u_f ?_ | refine v_s ?_ | refine v_o ?_ | refine v_on ?_ | refine v_og ?_ | refine v_q ?_ | refine v_sr ?_ | refine v_k ?_ | refine m_nil ?_)
      refine loop_n (k + 1) (by omega) ?_ rfl (by omega)
      ((repeat (first | exact trivial | (refine ⟨?_, ?_⟩; (focus (first | rfl | (simp [lk, argsS, args0]; done) | (simp [lk, argsS, args0]; omega)))))))
    · have : k = k0 := by omega
      subst this
      have he : q = l[k] := hq.symm
      repeat (first | refine awp_seq ?_ | refine then_n ?_ | refine then_r ?_ | refine then_x ?_ | refine block_n ?_ | refine block_r ?_ | refine block_x ?_ | refine u_y ?_ | refine loop_r ?_ | refine loop_x ?_ | refine awp_region ?_ | refine awpL_nil ?_ | refine awpQL_nil ?_ | refine awp_block ?_ | refine awp_skip ?_ | refine awp_exit ?_ | refine awp_label ?_ | refine u_dT ?_ | refine u_d ?_ | refine u_l ?_ | refine u_o ?_ | refine u_q ?_ | refine u_lr ?_ | refine u_qr ?_ | refine u_ls ?_ | refine u_qs ?_ | refine u_t ?_ | refine u_f ?_ | refine v_s ?_ | refine v_o ?_ | refine v_on ?_ | refine v_og ?_ | refine v_q ?_ | refine v_sr ?_ | refine v_k ?_ | refine m_nil ?_)
      (refine awp_ret ?_; (repeat (first | refine then_r ?_ | refine block_r ?_ | refine loop_r ?_)); apply ret_ok (.inr rfl); (focus exact rfl))
      rfl
end Go.Proofs.YtffmlijngfhhaaaGreatDoor
