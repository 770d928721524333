/- The law of Best. No condition. -/
import Derived.Test.YtkaffmojojnhhaaHa
import Derived.Test.YtkaffmojojnhhaaKn
namespace Go.Proofs.Ytkaffmojojnhhaa
open Go
attribute [local irreducible] awp awpL awpQL awpQ awpM pWalk Qt AC thenQ blockQ loopQ OpTo
set_option linter.unusedVariables false
set_option linter.unusedSimpArgs false
set_option maxHeartbeats 2000000
attribute [local irreducible] HC

/-! ### The order of words -/
def lexB : List Int → List Int → Bool
  | a :: u, b :: v => if a = b then lexB u v else decide (a < b)
  | _, _ => false
def befB (v w : List Int) : Bool := if v.length = w.length then lexB v w else decide (v.length < w.length)
theorem lexB_snoc : ∀ (u : List Int) (x y : Int), lexB (u ++ [x]) (u ++ [y]) = decide (x < y)
  | [], x, y => by
    simp only [List.nil_append, lexB]
    split
    · rename_i h; subst h; simp
    · rfl
  | a :: u, x, y => by simp [lexB, lexB_snoc u x y]
theorem lexB_app : ∀ {u v : List Int} {x y : Int}, u.length = v.length → lexB u v = true → lexB (u ++ [x]) (v ++ [y]) = true
  | [], [], _, _, _, h => by simp [lexB] at h
  | a :: u, b :: v, x, y, hl, h => by
    simp only [lexB, List.cons_append] at h ⊢
    split at h
    · rename_i e; rw [if_pos e]; exact lexB_app (by simpa using hl) h
    · rename_i e; rw [if_neg e]; exact h
  | [], _ :: _, _, _, h, _ => by simp at h
  | _ :: _, [], _, _, h, _ => by simp at h
theorem lexB_asymm : ∀ {u v : List Int}, lexB u v = true → lexB v u = false
  | [], [], h => by simp [lexB] at h
  | a :: u, b :: v, h => by
    simp only [lexB] at h ⊢
    split at h
    · rename_i e; rw [if_pos e.symm]; exact lexB_asymm h
    · rename_i e
      rw [if_neg (fun h => e h.symm)]
      simp at h ⊢; omega
  | [], _ :: _, h => by simp [lexB] at h
  | _ :: _, [], h => by simp [lexB] at h
theorem lexB_irr : ∀ u : List Int, lexB u u = false
  | [] => rfl
  | a :: u => by simp [lexB, lexB_irr u]

theorem wN_ord {n : Nat} (hn : 1 ≤ n) : ∀ (j i : Nat), i < j → (wN n i).length = (wN n j).length → lexB (wN n i) (wN n j) = true := fun j => by
  induction j using Nat.strongRecOn with
  | _ j ih =>
    intro i hij hl
    obtain ⟨q, rfl⟩ : ∃ q, j = q + 1 := ⟨j - 1, by omega⟩
    cases i with
    | zero => rw [wN_zero, wN_succ] at hl; simp at hl
    | succ p =>
      rw [wN_succ, wN_succ] at hl ⊢
      simp only [List.length_append, List.length_singleton, Nat.add_right_cancel_iff] at hl
      have hle : p / n ≤ q / n := Nat.div_le_div_right (by omega)
      rcases Nat.lt_or_ge (p / n) (q / n) with h | h
      · exact lexB_app hl (ih (q / n) (Nat.lt_succ_of_le (Nat.div_le_self q n)) (p / n) h hl)
      · have e : p / n = q / n := by omega
        rw [e, lexB_snoc]
        have h1 := Nat.div_add_mod p n
        have h2 := Nat.div_add_mod q n
        rw [e] at h1
        have : p % n < q % n := by omega
        simp; omega
theorem wN_surj {n : Nat} (hn : 1 ≤ n) : ∀ (k : Nat) (v : List Int), v.length = k → (∀ l ∈ v, 0 ≤ l ∧ l < n) → ∃ i, wN n i = v
  | 0, v, hl, _ => ⟨0, by rw [wN_zero, List.eq_nil_of_length_eq_zero hl]⟩
  | k + 1, v, hl, h => by
    have hne : v ≠ [] := fun e => by subst e; simp at hl
    have hs := List.dropLast_concat_getLast hne
    obtain ⟨i, hi⟩ := wN_surj hn k v.dropLast (by simp [hl]) fun l hl => h l ((List.dropLast_sublist v).subset hl)
    have hx := h _ (List.getLast_mem hne)
    refine ⟨1 + n * i + (v.getLast hne).toNat, ?_⟩
    rw [wN_next (by omega), hi, show ((v.getLast hne).toNat : Int) = v.getLast hne by omega]
    exact hs

theorem lenW_all {n m : Nat} (hn : 1 ≤ n) {v : List Int} (hl : v.length = m) (h : ∀ l ∈ v, 0 ≤ l ∧ l < n) : ∃ j : Nat, (lenW n m)[j]? = some v := by
  obtain ⟨i, rfl⟩ := wN_surj hn m v hl h
  have hi : i < gN n (m + 1) := (wN_lt hn (m + 1) i).1 (by omega)
  have hm : wN n i ∈ lenW n m := by
    unfold lenW
    exact List.mem_filter.2 ⟨List.mem_map.2 ⟨i, List.mem_range.2 hi, rfl⟩, by simp [hl]⟩
  exact List.mem_iff_getElem?.1 hm
theorem lenW_ord {n m : Nat} (hn : 1 ≤ n) {i j : Nat} {v w : List Int} (hv : (lenW n m)[i]? = some v) (hw : (lenW n m)[j]? = some w) (hij : i < j) : lexB v w = true := by
  have hp : (upN n (gN n (m + 1))).Pairwise fun v w => v.length = w.length → lexB v w = true := by
    unfold upN
    rw [List.pairwise_map]
    exact (List.pairwise_lt_range).imp fun {a b} h => wN_ord hn b a h
  have hq : (lenW n m).Pairwise fun v w => v.length = w.length → lexB v w = true := hp.filter _
  have hi : i < (lenW n m).length := by
    rcases Nat.lt_or_ge i (lenW n m).length with h | h
    · exact h
    · simp [h] at hv
  have hj : j < (lenW n m).length := by
    rcases Nat.lt_or_ge j (lenW n m).length with h | h
    · exact h
    · simp [h] at hw
  have := List.pairwise_iff_getElem.1 hq i j hi hj hij
  rw [List.getElem?_eq_getElem hi] at hv
  rw [List.getElem?_eq_getElem hj] at hw
  cases hv; cases hw
  exact this (by rw [(lenW_mem hn (List.getElem_mem hi)).1, (lenW_mem hn (List.getElem_mem hj)).1])

theorem bst_idx {C : Nat → Nat} : ∀ i, (bst C i).1 ≤ i
  | 0 => Nat.le_refl _
  | i + 1 => by
    have := bst_idx (C := C) i
    unfold bst
    split
    · show i ≤ i + 1; omega
    · omega
theorem bst_max {C : Nat → Nat} : ∀ (k i : Nat), i < k → ((C i : Int) ≤ (bst C k).2) ∧ (i < (bst C k).1 → (C i : Int) < (bst C k).2)
  | k + 1, i, h => by
    unfold bst
    by_cases hk : i = k
    · subst hk
      split
      · exact ⟨by show (C i : Int) ≤ C i; omega, fun h => absurd h (Nat.lt_irrefl _)⟩
      · rename_i hn
        refine ⟨by omega, fun h' => ?_⟩
        have := bst_idx (C := C) i
        omega
    · obtain ⟨h1, h2⟩ := bst_max (C := C) k i (by omega)
      split
      · rename_i hgt
        exact ⟨by show (C i : Int) ≤ C k; omega, fun _ => by show (C i : Int) < C k; omega⟩
      · exact ⟨h1, h2⟩

/-! ### What a word kills -/
section
variable {s o : Int} {nx ou : List (List Int)}
theorem kilL_one (ws : List (List Int)) (i : Nat) (w : List Int) (hw : ws.getD i [] = w) : ∀ M, (kilL s o nx ou [w] M).length = cntR (kW s o nx ou ws i) M
  | 0 => rfl
  | M + 1 => by
    have ih := kilL_one ws i w hw M
    have hb : kilB s o nx ou [w] (M : Int) = kW s o nx ou ws i M := by
      unfold kilB kW
      rw [hw]
      have := failS_one nx ou (mutX s o nx ou M).1 (mutX s o nx ou M).2 w
      rw [decide_eq_decide] at this ⊢
      omega
    unfold kilL cntR
    rw [List.length_append, ih, hb]
    cases kW s o nx ou ws i M <;> rfl
theorem kil_same (m : MV s o nx ou) {ws : List (List Int)} (su : SuOk nx.length ws) : ∀ (K : Nat), (K : Int) ≤ mutN s o nx.length → (kilL s o nx ou ws K).length + sameC s o nx ou K ≤ K
  | 0, _ => Nat.le_refl _
  | K + 1, hK => by
    have ih := kil_same m su K (by omega)
    obtain ⟨m', he⟩ := mv_mut m (k := (K : Int)) (by omega)
    unfold kilL sameC
    rw [List.length_append]
    cases hb : kilB s o nx ou ws (K : Int) with
    | false =>
      simp only [Bool.false_eq_true, if_false, List.length_nil]
      split <;> omega
    | true =>
      have : (apR nx ou (mutX s o nx ou K).1 (mutX s o nx ou K).2).2 = true := by
        unfold kilB at hb
        have hb := of_decide_eq_true hb
        obtain ⟨i, hi, -, h2, -⟩ := failS_hit nx ou (mutX s o nx ou K).1 (mutX s o nx ou K).2 ws 0 (by omega)
        have hd : ¬ runO nx ou 0 ws[i] = runO (mutX s o nx ou K).1 (mutX s o nx ou K).2 0 ws[i] := fun e => h2 ((failW_same _ _ _ _ _ _ _ _).2 e)
        exact apR_diff m m' he (su.all _ (List.getElem_mem hi)).2 hd
      rw [this]
      simp
      omega
end

/-! ### The walks -/
theorem laws_f6before {v w : List Int} (hv : v.length ≤ 100000) (hw : w.length ≤ 100000) : AC Try.prog 24 [ints v, ints w] (.bool (befB v w)) := by
  have hlv : (List.map (D.int .i64) v).length = v.length := by simp
  have hlw : (List.map (D.int .i64) w).length = w.length := by simp
  unfold befB
  by_cases hl : v.length = w.length
  · rw [if_pos hl]
    have key : ∀ k, k ≤ v.length → v.take k = w.take k → lexB v w = lexB (v.drop k) (w.drop k) := fun k => by
      induction k with
      | zero => intro _ _; rfl
      | succ k ih =>
        intro hk he
        have h1 : k < v.length := by omega
        have h2 : k < w.length := by omega
        rw [List.take_succ_eq_append_getElem h1, List.take_succ_eq_append_getElem h2] at he
        obtain ⟨a, b⟩ := List.append_inj he (by simp; omega)
        rw [ih (by omega) a, List.drop_eq_getElem_cons h1, List.drop_eq_getElem_cons h2]
        simp only [lexB]
        rw [if_pos (by simpa using b)]
    refine ac_intro tabIs _ Try.func24 rfl rfl Try.ntmps24 rfl rfl fun w0 ok0 => ?_
    repeat (first | refine awp_seq ?_ | refine then_n ?_ | refine then_r ?_ | refine then_x ?_ | refine block_n ?_ | refine block_r ?_ | refine block_x ?_ | refine u_y ?_ | refine loop_r ?_ | refine loop_x ?_ | refine awp_region ?_ | refine awpL_nil ?_ | refine awpQL_nil ?_ | refine awp_block ?_ | refine awp_skip ?_ | refine awp_exit ?_ | refine awp_label ?_ | refine u_dT ?_ | refine u_d ?_ | refine u_l ?_ | refine u_o ?_ | refine u_q ?_ | refine u_lr ?_ | refine u_qr ?_ | refine u_ls ?_ | refine u_qs ?_ | refine u_t ?_ | refine u_f ?_ | refine v_s ?_ | refine v_o ?_ | refine v_on ?_ | refine v_og ?_ | refine v_q ?_ | refine v_sr ?_ | refine v_k ?_ | refine m_nil ?_)
    refine awp_loop (fun k : Nat => k ≤ v.length ∧ v.take k = w.take k) (fun k => [(0, .d (ints v)), (1, .d (ints w)), (5, .d (.int .i64 k))]) (fun _ => []) (fun k => v.length - k) 0 ⟨by omega, rfl⟩ ?_ rfl ?_
    · ((repeat (first | exact trivial | (refine ⟨?_, ?_⟩; (focus (first | rfl | (simp [lk, argsS, args0]; done) | (simp [lk, argsS, args0]; omega)))))))
    · rintro k ⟨hk, ht⟩
      have hkey := key k hk ht
      by_cases hlt : k < v.length
      · have hlt2 : k < w.length := by omega
        have ea := el_int hlt
        have eb := el_int hlt2
        rw [List.drop_eq_getElem_cons hlt, List.drop_eq_getElem_cons hlt2] at hkey
        simp only [lexB] at hkey
        have hs := fun hc => eq_step hlt hlt2 ht hc
        by_cases hc : v[k] = w[k]
        · have hs := hs hc
          repeat (first | refine awp_seq ?_ | refine then_n ?_ | refine then_r ?_ | refine then_x ?_ | refine block_n ?_ | refine block_r ?_ | refine block_x ?_ | refine u_y ?_ | refine loop_r ?_ | refine loop_x ?_ | refine awp_region ?_ | refine awpL_nil ?_ | refine awpQL_nil ?_ | refine awp_block ?_ | refine awp_skip ?_ | refine awp_exit ?_ | refine awp_label ?_ | refine u_dT ?_ | refine u_d ?_ | refine u_l ?_ | refine u_o ?_ | refine u_q ?_ | refine u_lr ?_ | refine u_qr ?_ | refine u_ls ?_ | refine u_qs ?_ | refine u_t ?_ | refine u_f ?_ | refine v_s ?_ | refine v_o ?_ | refine v_on ?_ | refine v_og ?_ | refine v_q ?_ | refine v_sr ?_ | refine v_k ?_ | refine m_nil ?_)
          refine loop_n (k + 1) ⟨by omega, hs⟩ ?_ rfl (by omega)
          ((repeat (first | exact trivial | (refine ⟨?_, ?_⟩; (focus (first | rfl | (simp [lk, argsS, args0]; done) | (simp [lk, argsS, args0]; omega)))))))
        · rw [if_neg hc] at hkey
          rw [hkey]
          repeat (first | refine awp_seq ?_ | refine then_n ?_ | refine then_r ?_ | refine then_x ?_ | refine block_n ?_ | refine block_r ?_ | refine block_x ?_ | refine u_y ?_ | refine loop_r ?_ | refine loop_x ?_ | refine awp_region ?_ | refine awpL_nil ?_ | refine awpQL_nil ?_ | refine awp_block ?_ | refine awp_skip ?_ | refine awp_exit ?_ | refine awp_label ?_ | refine u_dT ?_ | refine u_d ?_ | refine u_l ?_ | refine u_o ?_ | refine u_q ?_ | refine u_lr ?_ | refine u_qr ?_ | refine u_ls ?_ | refine u_qs ?_ | refine u_t ?_ | refine u_f ?_ | refine v_s ?_ | refine v_o ?_ | refine v_on ?_ | refine v_og ?_ | refine v_q ?_ | refine v_sr ?_ | refine v_k ?_ | refine m_nil ?_)
          (refine awp_ret ?_; (repeat (first | refine then_r ?_ | refine block_r ?_ | refine loop_r ?_)); apply ret_ok (.inr rfl); (focus exact rfl))
          rfl
      · have hk' : k = v.length := by omega
        subst hk'
        rw [List.drop_of_length_le (Nat.le_refl _)] at hkey
        rw [hkey]
        repeat (first | refine awp_seq ?_ | refine then_n ?_ | refine then_r ?_ | refine then_x ?_ | refine block_n ?_ | refine block_r ?_ | refine block_x ?_ | refine u_y ?_ | refine loop_r ?_ | refine loop_x ?_ | refine awp_region ?_ | refine awpL_nil ?_ | refine awpQL_nil ?_ | refine awp_block ?_ | refine awp_skip ?_ | refine awp_exit ?_ | refine awp_label ?_ | refine u_dT ?_ | refine u_d ?_ | refine u_l ?_ | refine u_o ?_ | refine u_q ?_ | refine u_lr ?_ | refine u_qr ?_ | refine u_ls ?_ | refine u_qs ?_ | refine u_t ?_ | refine u_f ?_ | refine v_s ?_ | refine v_o ?_ | refine v_on ?_ | refine v_og ?_ | refine v_q ?_ | refine v_sr ?_ | refine v_k ?_ | refine m_nil ?_)
        (refine awp_ret ?_; (repeat (first | refine then_r ?_ | refine block_r ?_ | refine loop_r ?_)); apply ret_ok (.inr rfl); (focus exact rfl))
        rfl
  · rw [if_neg hl]
    refine ac_intro tabIs _ Try.func24 rfl rfl Try.ntmps24 rfl rfl fun w0 ok0 => ?_
    repeat (first | refine awp_seq ?_ | refine then_n ?_ | refine then_r ?_ | refine then_x ?_ | refine block_n ?_ | refine block_r ?_ | refine block_x ?_ | refine u_y ?_ | refine loop_r ?_ | refine loop_x ?_ | refine awp_region ?_ | refine awpL_nil ?_ | refine awpQL_nil ?_ | refine awp_block ?_ | refine awp_skip ?_ | refine awp_exit ?_ | refine awp_label ?_ | refine u_dT ?_ | refine u_d ?_ | refine u_l ?_ | refine u_o ?_ | refine u_q ?_ | refine u_lr ?_ | refine u_qr ?_ | refine u_ls ?_ | refine u_qs ?_ | refine u_t ?_ | refine u_f ?_ | refine v_s ?_ | refine v_o ?_ | refine v_on ?_ | refine v_og ?_ | refine v_q ?_ | refine v_sr ?_ | refine v_k ?_ | refine m_nil ?_)
    (refine awp_ret ?_; (repeat (first | refine then_r ?_ | refine block_r ?_ | refine loop_r ?_)); apply ret_ok (.inr rfl); (focus exact rfl))
    rw [hlv, hlw]
    simp

theorem spec_P6WordH {code : List Int} {L most : Int} (hb : BytesOk code) (hL : 1 ≤ L ∧ L ≤ 100) (hm : 0 ≤ most ∧ most ≤ 100) :
    HC Try.prog 21 [.d (u8s code), .d (.int .i64 L), .d (.int .i64 most)] [] (.own 30000) [(30000, .arr 2 1 ((psW code L (pickS code (most + 1) ⟨0, 0⟩) (pickV code (most + 1) ⟨0, 0⟩).toNat).1.map (.int .i64)))] := by
  have c0 := spec_From (code := code)
  have hP : ∀ (s : Src) (k : Nat) (n : Int), SOk s k → k ≤ 999999990 → n ≤ 1000 → HC Try.prog 58 [.ref 10000 0, .d (.int .i64 n)] [(10000, srcB code s)] (.d (.int .i64 (pickV code n s))) [(10000, srcB code (pickS code n s))] := fun s k n a b c => spec_pick hb a b (by omega)
  have k0 : SOk (⟨0, 0⟩ : Src) 0 := ⟨Nat.le_refl _, by simp⟩
  have c1 := hP _ _ (most + 1) k0 (by omega) (by omega)
  have hr := pick_range (s := ⟨0, 0⟩) (n := most + 1) hb (by omega)
  have hk1 := pick_ok (code := code) (n := most + 1) k0
  generalize pickV code (most + 1) ⟨0, 0⟩ = W at *
  generalize pickS code (most + 1) ⟨0, 0⟩ = s2 at *
  unfold srcB at c0 c1 hP
  unfold u8s at *
  refine hc_intro tabIs _ Try.func21 rfl rfl Try.ntmps21 rfl rfl rfl ?_ fun w0 ok0 XM XA anc => ?_
  · exact likeIn_nil
  repeat (first | refine awp_seq ?_ | refine then_n ?_ | refine then_r ?_ | refine then_x ?_ | refine block_n ?_ | refine block_r ?_ | refine block_x ?_ | refine u_y ?_ | refine loop_r ?_ | refine loop_x ?_ | refine awp_region ?_ | refine awpL_nil ?_ | refine awpQL_nil ?_ | refine awp_block ?_ | refine awp_skip ?_ | refine awp_exit ?_ | refine awp_label ?_ | refine u_dT ?_ | refine u_d ?_ | refine u_l ?_ | refine u_o ?_ | refine u_q ?_ | refine u_lr ?_ | refine u_qr ?_ | refine u_ls ?_ | refine u_qs ?_ | refine u_t ?_ | refine u_f ?_ | refine v_s ?_ | refine v_o ?_ | refine v_on ?_ | refine v_og ?_ | refine v_q ?_ | refine v_sr ?_ | refine v_k ?_ | refine m_nil ?_)
  refine hcl [] [(30000, 500)] c0 ?_
  repeat (first | refine v_w (t := 12) ?_ | refine awp_seq ?_ | refine then_n ?_ | refine then_r ?_ | refine then_x ?_ | refine block_n ?_ | refine block_r ?_ | refine block_x ?_ | refine u_y ?_ | refine loop_r ?_ | refine loop_x ?_ | refine awp_region ?_ | refine awpL_nil ?_ | refine awpQL_nil ?_ | refine awp_block ?_ | refine awp_skip ?_ | refine awp_exit ?_ | refine awp_label ?_ | refine u_dT ?_ | refine u_d ?_ | refine u_w (t := 12) ?_ | refine u_l ?_ | refine u_o ?_ | refine u_q ?_ | refine u_lr ?_ | refine u_qr ?_ | refine u_ls ?_ | refine u_qs ?_ | refine u_t ?_ | refine u_f ?_ | refine v_s ?_ | refine v_o ?_ | refine v_on ?_ | refine v_og ?_ | refine v_q ?_ | refine v_sr ?_ | refine v_k ?_ | refine m_nil ?_)
  refine hcl [(500, 10000)] [(10000, 500)] c1 ?_
  repeat (first | refine awp_seq ?_ | refine then_n ?_ | refine then_r ?_ | refine then_x ?_ | refine block_n ?_ | refine block_r ?_ | refine block_x ?_ | refine u_y ?_ | refine loop_r ?_ | refine loop_x ?_ | refine awp_region ?_ | refine awpL_nil ?_ | refine awpQL_nil ?_ | refine awp_block ?_ | refine awp_skip ?_ | refine awp_exit ?_ | refine awp_label ?_ | refine u_dT ?_ | refine u_d ?_ | refine u_l ?_ | refine u_o ?_ | refine u_q ?_ | refine u_lr ?_ | refine u_qr ?_ | refine u_ls ?_ | refine u_qs ?_ | refine u_t ?_ | refine u_f ?_ | refine v_s ?_ | refine v_o ?_ | refine v_on ?_ | refine v_og ?_ | refine v_q ?_ | refine v_sr ?_ | refine v_k ?_ | refine m_nil ?_)
  refine awp_perm _ rfl ?_
  refine awp_loop (fun i : Nat => (i : Int) ≤ W) (fun i => [(1, .d (.int .i64 L)), (7, .ref 500 0), (8, .own 12), (9, .d (.int .i64 (W - i)))])
    (fun i => [(12, .arr 2 1 ((psW code L s2 i).1.map (.int .i64))), (500, srcB code (psW code L s2 i).2)]) (fun i => W.toNat - i) 0 (by omega) ?_ (by as_aux_lemma => kernel_rfl) ?_
  · refine ⟨rfl, rfl, rfl, ?_, trivial⟩
    show SV.d (.int .i64 W) = SV.d (.int .i64 (W - ((0 : Nat) : Int)))
    simp
  · intro i hi
    have hkw := psW_ok (code := code) (L := L) hk1 i
    have hlw2 := psW_len (code := code) (L := L) (s := s2) i
    have hlw : ((psW code L s2 i).1.map (D.int .i64)).length = i := by rw [List.length_map, psW_len]
    by_cases hil : (i : Int) < W
    · have q2 := hP _ _ L hkw (by omega) (by omega)
      have hsw : psW code L s2 (i + 1) = ((psW code L s2 i).1 ++ [pickV code L (psW code L s2 i).2], pickS code L (psW code L s2 i).2) := rfl
      generalize psW code L s2 i = t at *
      have hni : W - i - 1 = W - ((i + 1 : Nat) : Int) := by omega
      repeat (first | refine awp_seq ?_ | refine then_n ?_ | refine then_r ?_ | refine then_x ?_ | refine block_n ?_ | refine block_r ?_ | refine block_x ?_ | refine u_y ?_ | refine loop_r ?_ | refine loop_x ?_ | refine awp_region ?_ | refine awpL_nil ?_ | refine awpQL_nil ?_ | refine awp_block ?_ | refine awp_skip ?_ | refine awp_exit ?_ | refine awp_label ?_ | refine u_dT ?_ | refine u_d ?_ | refine u_l ?_ | refine u_o ?_ | refine u_q ?_ | refine u_lr ?_ | refine u_qr ?_ | refine u_ls ?_ | refine u_qs ?_ | refine u_t ?_ | refine u_f ?_ | refine v_s ?_ | refine v_o ?_ | refine v_on ?_ | refine v_og ?_ | refine v_q ?_ | refine v_sr ?_ | refine v_k ?_ | refine m_nil ?_)
      refine hcl [(500, 10000)] [(10000, 500)] q2 ?_
      repeat (first | refine awp_seq ?_ | refine then_n ?_ | refine then_r ?_ | refine then_x ?_ | refine block_n ?_ | refine block_r ?_ | refine block_x ?_ | refine u_y ?_ | refine loop_r ?_ | refine loop_x ?_ | refine awpL_nil ?_ | refine awpQL_nil ?_ | refine awp_block ?_ | refine awp_skip ?_ | refine awp_exit ?_ | refine awp_label ?_ | refine u_dT ?_ | refine u_d ?_ | refine u_l ?_ | refine u_o ?_ | refine u_q ?_ | refine u_lr ?_ | refine u_qr ?_ | refine u_ls ?_ | refine u_qs ?_ | refine u_t ?_ | refine u_f ?_ | refine v_s ?_ | refine v_o ?_ | refine v_on ?_ | refine v_og ?_ | refine v_q ?_ | refine v_sr ?_ | refine v_k ?_ | refine m_nil ?_)
      refine awp_perm _ rfl ?_
      repeat (first | refine awp_seq ?_ | refine then_n ?_ | refine then_r ?_ | refine then_x ?_ | refine block_n ?_ | refine block_r ?_ | refine block_x ?_ | refine u_y ?_ | refine loop_r ?_ | refine loop_x ?_ | refine awp_region ?_ | refine awpL_nil ?_ | refine awpQL_nil ?_ | refine awp_block ?_ | refine awp_skip ?_ | refine awp_exit ?_ | refine awp_label ?_ | refine u_dT ?_ | refine u_d ?_ | refine u_l ?_ | refine u_o ?_ | refine u_q ?_ | refine u_lr ?_ | refine u_qr ?_ | refine u_ls ?_ | refine u_qs ?_ | refine u_t ?_ | refine u_f ?_ | refine v_s ?_ | refine v_o ?_ | refine v_on ?_ | refine v_og ?_ | refine v_q ?_ | refine v_sr ?_ | refine v_k ?_ | refine m_nil ?_)
      refine loop_n (i + 1) (by omega) ?_ ?_ (by omega)
      · rw [← hni]; ((repeat (first | exact trivial | (refine ⟨?_, ?_⟩; (focus (first | rfl | (simp [lk, argsS, args0]; done) | (simp [lk, argsS, args0]; omega)))))))
      · rw [hsw]; simp only [List.map_append]; (as_aux_lemma => kernel_rfl)
    · have hiW : i = W.toNat := by omega
      subst hiW
      repeat (first | refine awp_seq ?_ | refine then_n ?_ | refine then_r ?_ | refine then_x ?_ | refine block_n ?_ | refine block_r ?_ | refine block_x ?_ | refine u_y ?_ | refine loop_r ?_ | refine loop_x ?_ | refine awp_region ?_ | refine awpL_nil ?_ | refine awpQL_nil ?_ | refine awp_block ?_ | refine awp_skip ?_ | refine awp_exit ?_ | refine awp_label ?_ | refine u_dT ?_ | refine u_d ?_ | refine u_l ?_ | refine u_o ?_ | refine u_q ?_ | refine u_lr ?_ | refine u_qr ?_ | refine u_ls ?_ | refine u_qs ?_ | refine u_t ?_ | refine u_f ?_ | refine v_s ?_ | refine v_o ?_ | refine v_on ?_ | refine v_og ?_ | refine v_q ?_ | refine v_sr ?_ | refine v_k ?_ | refine m_nil ?_)
      (refine awp_ret ?_; (repeat (first | refine then_r ?_ | refine block_r ?_ | refine loop_r ?_)); refine u_rH [(12, 30000)] ?_ ?_)
      · rfl
      · rfl

section
variable {s o : Int} {nx ou ws : List (List Int)}
theorem bwD_v {k : Nat} (m : MV s o nx ou) (hk : k ≤ 6) : bwD s o nx ou k = ((lenW nx.length k).getD (bwI s o nx ou k) [], 0) := by
  unfold bwD
  rw [if_pos (machOk_mv m), if_pos (by simp [inB]; omega), Int.toNat_natCast]
theorem impl_BestWordV {k : Nat} (m : MV s o nx ou) (hk : k ≤ 6) : AC Try.prog 11 [mach s o nx ou, .int .i64 k] (.tup [ints ((lenW nx.length k).getD (bwI s o nx ou k) []), .int .i64 0]) := by
  have := impl_BestWordH (s := s) (o := o) (len := k) m.rnx m.rou
  rw [bwD_v m hk] at this
  exact ac_of_hc (xs := [mach s o nx ou, .int .i64 k]) (d := .tup [ints ((lenW nx.length k).getD (bwI s o nx ou k) []), .int .i64 0]) this rfl
theorem spec_BestWordV {k : Nat} (m : MV s o nx ou) (hk : k ≤ 6) : AC Try.prog 9 [mach s o nx ou, .int .i64 k] (.tup [ints ((lenW nx.length k).getD (bwI s o nx ou k) []), .int .i64 0]) := by
  have := spec_BestWord (s := s) (o := o) (len := k) m.rnx m.rou
  rwa [bwD_v m hk] at this
theorem impl_CoverageOfV (m : MV s o nx ou) (h : SuOk nx.length ws) : AC Try.prog 22 [mach s o nx ou, rows ws] (.tup [.int .i64 (kilL s o nx ou ws (mutN s o nx.length).toNat).length, .int .i64 (sameC s o nx ou (mutN s o nx.length).toNat), .int .i64 (mutN s o nx.length - (kilL s o nx ou ws (mutN s o nx.length).toNat).length - sameC s o nx ou (mutN s o nx.length).toNat), .int .i64 0]) := by
  have := impl_CoverageOf (s := s) (o := o) m.rnx m.rou (h.rows (by have := m.n1; omega))
  unfold covD at this
  rwa [if_pos (machOk_mv m), if_pos (suiteOk_su h)] at this
end

theorem law_FnBest {code more : List Int} (hb : BytesOk code) (hb2 : BytesOk more) : AC Try.prog 4 [u8s code, u8s more] (.bool true) := by
  have g1 := laws_f6big (code := code)
  have g2 := laws_f6big (code := more)
  by_cases c1 : (4096 : Int) < code.length
  · rw [decide_eq_true c1] at g1
    refine ac_intro tabIs _ Try.func4 rfl rfl Try.ntmps4 rfl rfl fun w0 ok0 => ?_
    repeat (first | refine awp_seq ?_ | refine then_n ?_ | refine then_r ?_ | refine then_x ?_ | refine block_n ?_ | refine block_r ?_ | refine block_x ?_ | refine u_y ?_ | refine loop_r ?_ | refine loop_x ?_ | refine awp_region ?_ | refine awpL_nil ?_ | refine awpQL_nil ?_ | refine awp_block ?_ | refine awp_skip ?_ | refine awp_exit ?_ | refine awp_label ?_ | refine u_dT ?_ | refine u_d ?_ | ((first | apply c_l | apply c_q | apply c_lr | apply c_qr); (iterate 2 exact rfl); (focus (first | exact g1)); (iterate 2 exact rfl)) | (apply v_c; (iterate 4 exact rfl); (focus (first | exact g1)); (iterate 2 exact rfl)) | refine u_l ?_ | refine u_o ?_ | refine u_q ?_ | refine u_lr ?_ | refine u_qr ?_ | refine u_ls ?_ | refine u_qs ?_ | refine u_t ?_ | refine u_f ?_ | refine v_s ?_ | refine v_o ?_ | refine v_on ?_ | refine v_og ?_ | refine v_q ?_ | refine v_sr ?_ | refine v_k ?_ | refine m_nil ?_)
    (refine awp_ret ?_; (repeat (first | refine then_r ?_ | refine block_r ?_ | refine loop_r ?_)); apply ret_ok (.inr rfl); (focus exact rfl))
    rfl
  rw [decide_eq_false c1] at g1
  by_cases c2 : (4096 : Int) < more.length
  · rw [decide_eq_true c2] at g2
    refine ac_intro tabIs _ Try.func4 rfl rfl Try.ntmps4 rfl rfl fun w0 ok0 => ?_
    repeat (first | refine awp_seq ?_ | refine then_n ?_ | refine then_r ?_ | refine then_x ?_ | refine block_n ?_ | refine block_r ?_ | refine block_x ?_ | refine u_y ?_ | refine loop_r ?_ | refine loop_x ?_ | refine awp_region ?_ | refine awpL_nil ?_ | refine awpQL_nil ?_ | refine awp_block ?_ | refine awp_skip ?_ | refine awp_exit ?_ | refine awp_label ?_ | refine u_dT ?_ | refine u_d ?_ | ((first | apply c_l | apply c_q | apply c_lr | apply c_qr); (iterate 2 exact rfl); (focus (first | exact g1 | exact g2)); (iterate 2 exact rfl)) | (apply v_c; (iterate 4 exact rfl); (focus (first | exact g1 | exact g2)); (iterate 2 exact rfl)) | refine u_l ?_ | refine u_o ?_ | refine u_q ?_ | refine u_lr ?_ | refine u_qr ?_ | refine u_ls ?_ | refine u_qs ?_ | refine u_t ?_ | refine u_f ?_ | refine v_s ?_ | refine v_o ?_ | refine v_on ?_ | refine v_og ?_ | refine v_q ?_ | refine v_sr ?_ | refine v_k ?_ | refine m_nil ?_)
    (refine awp_ret ?_; (repeat (first | refine then_r ?_ | refine block_r ?_ | refine loop_r ?_)); apply ret_ok (.inr rfl); (focus exact rfl))
    rfl
  rw [decide_eq_false c2] at g2
  have p1 := spec_P6Machine hb
  have m := mv_pmM hb
  generalize pmM code = M at *
  obtain ⟨s, o, nx, ou⟩ := M
  dsimp only at p1 m
  have hn := m.n1
  have p2 := spec_P6Pick (n := 5) hb2 (by omega)
  have hk := pick_range (s := ⟨0, 0⟩) (n := 5) hb2 (by omega)
  obtain ⟨k, hk'⟩ : ∃ k : Nat, pickV more 5 ⟨0, 0⟩ = k := ⟨(pickV more 5 ⟨0, 0⟩).toNat, by omega⟩
  rw [hk'] at p2 hk
  have hk6 : k ≤ 4 := by omega
  have p3 := impl_BestWordV m (k := k) (by omega)
  have p3' := spec_BestWordV m (k := k) (by omega)
  have hLn := lenW_ne (m := k) hn.1
  have hN := mutN_bounds m.s1 m.o1 m.n1.2
  have hC : ∀ i, cntK s o nx ou (lenW nx.length k) i ≤ (mutN s o nx.length).toNat := fun i => cntR_le _
  obtain ⟨-, hB1, -, -, hB2⟩ := bst_ok hC (lenW nx.length k).length
  have hB1 := hB1 (by omega)
  have hB2 := hB2 (by omega)
  have hmax := fun i => bst_max (C := cntK s o nx ou (lenW nx.length k)) (lenW nx.length k).length i
  have hbi : bwI s o nx ou k = (bst (cntK s o nx ou (lenW nx.length k)) (lenW nx.length k).length).1 := rfl
  rw [hbi] at p3 p3'
  generalize (bst (cntK s o nx ou (lenW nx.length k)) (lenW nx.length k).length).2 = B2 at *
  generalize (bst (cntK s o nx ou (lenW nx.length k)) (lenW nx.length k).length).1 = B at *
  have hgB : (lenW nx.length k)[B]? = some (lenW nx.length k)[B] := List.getElem?_eq_getElem hB1
  have hgD : (lenW nx.length k).getD B [] = (lenW nx.length k)[B] := by rw [List.getD_eq_getElem?_getD, hgB]; rfl
  rw [hgD] at p3 p3'
  have hcD : cntK s o nx ou (lenW nx.length k) B = cntR (kW s o nx ou (lenW nx.length k) B) (mutN s o nx.length).toNat := rfl
  rw [← kilL_one _ B _ hgD] at hcD
  obtain ⟨hdl, hda⟩ := lenW_mem hn.1 (List.getElem_mem hB1)
  generalize (lenW nx.length k)[B] = due at *
  have su1 : SuOk nx.length [due] := suOne ⟨by omega, hda⟩
  have p5 := impl_CoverageOfV m su1
  have hks := kil_same m su1 (mutN s o nx.length).toNat (by omega)
  have p6 := impl_MutantCountV m
  have pE := laws_f6ints (a := due) (b := due) (by omega) (by omega)
  rw [decide_eq_true rfl] at pE
  have hle : (List.map ints nx).length = nx.length := by simp
  have pW := spec_P6WordH (code := more) (L := ((List.map ints nx).length : Int)) (most := (k : Int)) hb2 (by rw [hle]; omega) (by omega)
  have hr := pick_range (s := ⟨0, 0⟩) (n := (k : Int) + 1) hb2 (by omega)
  have hel := psW_el (code := more) (L := ((List.map ints nx).length : Int)) (s := pickS more ((k : Int) + 1) ⟨0, 0⟩) hb2 (by rw [hle]; omega) (pickV more ((k : Int) + 1) ⟨0, 0⟩).toNat
  have hwl := psW_len (code := more) (L := ((List.map ints nx).length : Int)) (s := pickS more ((k : Int) + 1) ⟨0, 0⟩) (pickV more ((k : Int) + 1) ⟨0, 0⟩).toNat
  generalize (psW more ((List.map ints nx).length : Int) (pickS more ((k : Int) + 1) ⟨0, 0⟩) (pickV more ((k : Int) + 1) ⟨0, 0⟩).toNat).1 = w0' at *
  rw [hle] at hel
  have hwk : w0'.length ≤ k := by omega
  have hvl : (w0' ++ List.replicate (k - w0'.length) (0 : Int)).length = k := by simp; omega
  have hva : ∀ l ∈ w0' ++ List.replicate (k - w0'.length) (0 : Int), 0 ≤ l ∧ l < (nx.length : Int) := fun l hl => by
    rcases List.mem_append.1 hl with h | h
    · exact hel l h
    · rw [List.eq_of_mem_replicate h]; omega
  obtain ⟨j, hj⟩ := lenW_all hn.1 hvl hva
  have hjl : j < (lenW nx.length k).length := by
    rcases Nat.lt_or_ge j (lenW nx.length k).length with h | h
    · exact h
    · simp [h] at hj
  have hjD : (lenW nx.length k).getD j [] = w0' ++ List.replicate (k - w0'.length) (0 : Int) := by rw [List.getD_eq_getElem?_getD, hj]; rfl
  have hcJ : cntK s o nx ou (lenW nx.length k) j = cntR (kW s o nx ou (lenW nx.length k) j) (mutN s o nx.length).toNat := rfl
  rw [← kilL_one _ j _ hjD] at hcJ
  obtain ⟨hm1, hm2⟩ := hmax j hjl
  have hbef : befB (w0' ++ List.replicate (k - w0'.length) (0 : Int)) due = true → j < B := fun h => by
    unfold befB at h
    rw [if_pos (by rw [hvl, hdl])] at h
    rcases Nat.lt_trichotomy j B with e | e | e
    · exact e
    · subst e
      rw [hj] at hgB
      cases hgB
      rw [lexB_irr] at h
      cases h
    · rw [lexB_asymm (lenW_ord hn.1 hgB hj e)] at h
      cases h
  have su2 : SuOk nx.length [w0' ++ List.replicate (k - w0'.length) (0 : Int)] := suOne ⟨by omega, hva⟩
  have p7 := impl_CoverageOfV m su2
  have hks2 := kil_same m su2 (mutN s o nx.length).toNat (by omega)
  have p8 := laws_f6before (v := w0' ++ List.replicate (k - w0'.length) (0 : Int)) (w := due) (by omega) (by omega)
  rw [hB2, hcJ, hcD] at hm2
  rw [hB2, hcJ, hcD] at hm1
  generalize sameC s o nx ou (mutN s o nx.length).toNat = S0 at *
  generalize (kilL s o nx ou [due] (mutN s o nx.length).toNat).length = A at *
  generalize (kilL s o nx ou [w0' ++ List.replicate (k - w0'.length) (0 : Int)] (mutN s o nx.length).toNat).length = A2 at *
  generalize mutN s o nx.length = N at *
  have hdm : (List.map (D.int .i64) due).length = k := by simp [hdl]
  have hstop : ∀ i, (List.map (D.int .i64) (w0' ++ List.replicate i (0 : Int))).length = w0'.length + i := fun i => by simp
  refine ac_intro tabIs _ Try.func4 rfl rfl Try.ntmps4 rfl rfl fun w0 ok0 => ?_
  repeat (first | refine awp_seq ?_ | refine then_n ?_ | refine then_r ?_ | refine then_x ?_ | refine block_n ?_ | refine block_r ?_ | refine block_x ?_ | refine u_y ?_ | refine loop_r ?_ | refine loop_x ?_ | refine awp_region ?_ | refine awpL_nil ?_ | refine awpQL_nil ?_ | refine awp_block ?_ | refine awp_skip ?_ | refine awp_exit ?_ | refine awp_label ?_ | refine u_dT ?_ | refine u_d ?_ | ((first | apply c_l | apply c_q | apply c_lr | apply c_qr); (iterate 2 exact rfl); (focus (first | exact g1 | exact g2 | exact p1 | exact p2 | exact p3 | exact p3' | exact pE)); (iterate 2 exact rfl)) | (apply v_c; (iterate 4 exact rfl); (focus (first | exact g1 | exact g2 | exact p1 | exact p2 | exact p3 | exact p3' | exact pE)); (iterate 2 exact rfl)) | refine u_l ?_ | refine u_o ?_ | refine u_q ?_ | refine u_lr ?_ | refine u_qr ?_ | refine u_ls ?_ | refine u_qs ?_ | refine u_t ?_ | refine u_f ?_ | refine v_s ?_ | refine v_o ?_ | refine v_on ?_ | refine v_og ?_ | refine v_q ?_ | refine v_sr ?_ | refine v_k ?_ | refine m_nil ?_)
  rw [show decide (((List.map (D.int .i64) due).length : Int) = (k : Int)) = true from decide_eq_true (by rw [hdm])]
  repeat (first | refine awp_seq ?_ | refine then_n ?_ | refine then_r ?_ | refine then_x ?_ | refine block_n ?_ | refine block_r ?_ | refine block_x ?_ | refine u_y ?_ | refine loop_r ?_ | refine loop_x ?_ | refine awp_region ?_ | refine awpL_nil ?_ | refine awpQL_nil ?_ | refine awp_block ?_ | refine awp_skip ?_ | refine awp_exit ?_ | refine awp_label ?_ | refine u_dT ?_ | refine u_d ?_ | refine u_l ?_ | refine u_o ?_ | refine u_q ?_ | refine u_lr ?_ | refine u_qr ?_ | refine u_ls ?_ | refine u_qs ?_ | refine u_t ?_ | refine u_f ?_ | refine v_s ?_ | refine v_o ?_ | refine v_on ?_ | refine v_og ?_ | refine v_q ?_ | refine v_sr ?_ | refine v_k ?_ | refine m_nil ?_)
  refine hcl [] [(30000, 500)] pW ?_
  repeat (first | refine awp_seq ?_ | refine then_n ?_ | refine then_r ?_ | refine then_x ?_ | refine block_n ?_ | refine block_r ?_ | refine block_x ?_ | refine u_y ?_ | refine loop_r ?_ | refine loop_x ?_ | refine awp_region ?_ | refine awpL_nil ?_ | refine awpQL_nil ?_ | refine awp_block ?_ | refine awp_skip ?_ | refine awp_exit ?_ | refine awp_label ?_ | refine u_dT ?_ | refine u_d ?_ | refine u_l ?_ | refine u_o ?_ | refine u_q ?_ | refine u_lr ?_ | refine u_qr ?_ | refine u_ls ?_ | refine u_qs ?_ | refine u_t ?_ | refine u_f ?_ | refine v_s ?_ | refine v_o ?_ | refine v_on ?_ | refine v_og ?_ | refine v_q ?_ | refine v_sr ?_ | refine v_k ?_ | refine m_nil ?_)
  refine awp_permTo [(500, .arr 2 1 ((w0' ++ List.replicate 0 (0 : Int)).map (.int .i64))), (5, .box [.d (.int .i64 s), .d (.int .i64 o), .d (rows nx), .d (rows ou)])] (by rw [List.replicate_zero, List.append_nil]; (as_aux_lemma => kernel_rfl)) ?_
  refine awp_loop (fun i : Nat => w0'.length + i ≤ k) (fun i => [(5, .ref 5 0), (6, .d (.int .i64 k)), (9, .d (ints due)), (11, .own 500)]) (fun i => [(500, .arr 2 1 ((w0' ++ List.replicate i (0 : Int)).map (.int .i64))), (5, .box [.d (.int .i64 s), .d (.int .i64 o), .d (rows nx), .d (rows ou)])]) (fun i => k - i) 0 (by omega) ?_ rfl ?_
  · ((repeat (first | exact trivial | (refine ⟨?_, ?_⟩; (focus (first | rfl | (simp [lk, argsS, args0]; done) | (simp [lk, argsS, args0]; omega)))))))
  · intro i hi
    have hli := hstop i
    by_cases hlt : w0'.length + i < k
    · repeat (first | refine awp_seq ?_ | refine then_n ?_ | refine then_r ?_ | refine then_x ?_ | refine block_n ?_ | refine block_r ?_ | refine block_x ?_ | refine u_y ?_ | refine loop_r ?_ | refine loop_x ?_ | refine awp_region ?_ | refine awpL_nil ?_ | refine awpQL_nil ?_ | refine awp_block ?_ | refine awp_skip ?_ | refine awp_exit ?_ | refine awp_label ?_ | refine u_dT ?_ | refine u_d ?_ | refine u_l ?_ | refine u_o ?_ | refine u_q ?_ | refine u_lr ?_ | refine u_qr ?_ | refine u_ls ?_ | refine u_qs ?_ | refine u_t ?_ | refine u_f ?_ | refine v_s ?_ | refine v_o ?_ | refine v_on ?_ | refine v_og ?_ | refine v_q ?_ | refine v_sr ?_ | refine v_k ?_ | refine m_nil ?_)
      refine loop_n (i + 1) (by omega) ?_ ?_ (by omega)
      · ((repeat (first | exact trivial | (refine ⟨?_, ?_⟩; (focus (first | rfl | (simp [lk, argsS, args0]; done) | (simp [lk, argsS, args0]; omega)))))))
      · rw [List.replicate_succ', ← List.append_assoc, List.map_append]; rfl
    · have hie : i = k - w0'.length := by omega
      subst hie
      generalize w0' ++ List.replicate (k - w0'.length) (0 : Int) = v at *
      repeat (first | refine awp_seq ?_ | refine then_n ?_ | refine then_r ?_ | refine then_x ?_ | refine block_n ?_ | refine block_r ?_ | refine block_x ?_ | refine u_y ?_ | refine loop_r ?_ | refine loop_x ?_ | refine awpL_nil ?_ | refine awpQL_nil ?_ | refine awp_block ?_ | refine awp_skip ?_ | refine awp_exit ?_ | refine awp_label ?_ | refine u_dT ?_ | refine u_d ?_ | refine u_l ?_ | refine u_o ?_ | refine u_q ?_ | refine u_lr ?_ | refine u_qr ?_ | refine u_ls ?_ | refine u_qs ?_ | refine u_t ?_ | refine u_f ?_ | refine v_s ?_ | refine v_o ?_ | refine v_on ?_ | refine v_og ?_ | refine v_q ?_ | refine v_sr ?_ | refine v_k ?_ | refine m_nil ?_)
      refine awp_region ?_
      repeat (first | refine awp_seq ?_ | refine then_n ?_ | refine then_r ?_ | refine then_x ?_ | refine block_n ?_ | refine block_r ?_ | refine block_x ?_ | refine u_y ?_ | refine loop_r ?_ | refine loop_x ?_ | refine awpL_nil ?_ | refine awpQL_nil ?_ | refine awp_block ?_ | refine awp_skip ?_ | refine awp_exit ?_ | refine awp_label ?_ | refine u_dT ?_ | refine u_d ?_ | refine u_l ?_ | refine u_o ?_ | refine u_q ?_ | refine u_lr ?_ | refine u_qr ?_ | refine u_ls ?_ | refine u_qs ?_ | refine u_t ?_ | refine u_f ?_ | refine v_s ?_ | refine v_o ?_ | refine v_on ?_ | refine v_og ?_ | refine v_q ?_ | refine v_sr ?_ | refine v_k ?_ | refine m_nil ?_)
      refine awp_freeze 500 rfl rfl ?_
      repeat (first | refine awp_seq ?_ | refine then_n ?_ | refine then_r ?_ | refine then_x ?_ | refine block_n ?_ | refine block_r ?_ | refine block_x ?_ | refine u_y ?_ | refine loop_r ?_ | refine loop_x ?_ | refine awp_region ?_ | refine awpL_nil ?_ | refine awpQL_nil ?_ | refine awp_block ?_ | refine awp_skip ?_ | refine awp_exit ?_ | refine awp_label ?_ | refine u_dT ?_ | refine u_d ?_ | ((first | apply c_l | apply c_q | apply c_lr | apply c_qr); (iterate 2 exact rfl); (focus (first | exact p5 | exact p6 | exact p7)); (iterate 2 exact rfl)) | (apply v_c; (iterate 4 exact rfl); (focus (first | exact p5 | exact p6 | exact p7)); (iterate 2 exact rfl)) | refine u_l ?_ | refine u_o ?_ | refine u_q ?_ | refine u_lr ?_ | refine u_qr ?_ | refine u_ls ?_ | refine u_qs ?_ | refine u_t ?_ | refine u_f ?_ | refine v_s ?_ | refine v_o ?_ | refine v_on ?_ | refine v_og ?_ | refine v_q ?_ | refine v_sr ?_ | refine v_k ?_ | refine m_nil ?_)
      rw [show decide ((A : Int) + (S0 : Int) + (N - (A : Int) - (S0 : Int)) = N) = true from decide_eq_true (by omega)]
      repeat (first | refine awp_seq ?_ | refine then_n ?_ | refine then_r ?_ | refine then_x ?_ | refine block_n ?_ | refine block_r ?_ | refine block_x ?_ | refine u_y ?_ | refine loop_r ?_ | refine loop_x ?_ | refine awp_region ?_ | refine awpL_nil ?_ | refine awpQL_nil ?_ | refine awp_block ?_ | refine awp_skip ?_ | refine awp_exit ?_ | refine awp_label ?_ | refine u_dT ?_ | refine u_d ?_ | refine u_l ?_ | refine u_o ?_ | refine u_q ?_ | refine u_lr ?_ | refine u_qr ?_ | refine u_ls ?_ | refine u_qs ?_ | refine u_t ?_ | refine u_f ?_ | refine v_s ?_ | refine v_o ?_ | refine v_on ?_ | refine v_og ?_ | refine v_q ?_ | refine v_sr ?_ | refine v_k ?_ | refine m_nil ?_)
      rw [show decide ((A : Int) < 0) = false from decide_eq_false (by omega)]
      repeat (first | refine awp_seq ?_ | refine then_n ?_ | refine then_r ?_ | refine then_x ?_ | refine block_n ?_ | refine block_r ?_ | refine block_x ?_ | refine u_y ?_ | refine loop_r ?_ | refine loop_x ?_ | refine awp_region ?_ | refine awpL_nil ?_ | refine awpQL_nil ?_ | refine awp_block ?_ | refine awp_skip ?_ | refine awp_exit ?_ | refine awp_label ?_ | refine u_dT ?_ | refine u_d ?_ | refine u_l ?_ | refine u_o ?_ | refine u_q ?_ | refine u_lr ?_ | refine u_qr ?_ | refine u_ls ?_ | refine u_qs ?_ | refine u_t ?_ | refine u_f ?_ | refine v_s ?_ | refine v_o ?_ | refine v_on ?_ | refine v_og ?_ | refine v_q ?_ | refine v_sr ?_ | refine v_k ?_ | refine m_nil ?_)
      rw [show decide ((S0 : Int) < 0) = false from decide_eq_false (by omega)]
      repeat (first | refine awp_seq ?_ | refine then_n ?_ | refine then_r ?_ | refine then_x ?_ | refine block_n ?_ | refine block_r ?_ | refine block_x ?_ | refine u_y ?_ | refine loop_r ?_ | refine loop_x ?_ | refine awp_region ?_ | refine awpL_nil ?_ | refine awpQL_nil ?_ | refine awp_block ?_ | refine awp_skip ?_ | refine awp_exit ?_ | refine awp_label ?_ | refine u_dT ?_ | refine u_d ?_ | refine u_l ?_ | refine u_o ?_ | refine u_q ?_ | refine u_lr ?_ | refine u_qr ?_ | refine u_ls ?_ | refine u_qs ?_ | refine u_t ?_ | refine u_f ?_ | refine v_s ?_ | refine v_o ?_ | refine v_on ?_ | refine v_og ?_ | refine v_q ?_ | refine v_sr ?_ | refine v_k ?_ | refine m_nil ?_)
      have hle2 : (A2 : Int) ≤ A := by omega
      cases hbb : befB v due with
      | true =>
        rw [hbb] at p8
        have hlt2 := hm2 (hbef hbb)
        repeat (first | refine awp_seq ?_ | refine then_n ?_ | refine then_r ?_ | refine then_x ?_ | refine block_n ?_ | refine block_r ?_ | refine block_x ?_ | refine u_y ?_ | refine loop_r ?_ | refine loop_x ?_ | refine awp_region ?_ | refine awpL_nil ?_ | refine awpQL_nil ?_ | refine awp_block ?_ | refine awp_skip ?_ | refine awp_exit ?_ | refine awp_label ?_ | refine u_dT ?_ | refine u_d ?_ | refine u_l ?_ | refine u_o ?_ | refine u_q ?_ | refine u_lr ?_ | refine u_qr ?_ | refine u_ls ?_ | refine u_qs ?_ | refine u_t ?_ | refine u_f ?_ | refine v_s ?_ | refine v_o ?_ | refine v_on ?_ | refine v_og ?_ | refine v_q ?_ | refine v_sr ?_ | refine v_k ?_ | refine m_nil ?_)
        rw [show decide ((A2 : Int) ≤ (A : Int)) = true from decide_eq_true hle2]
        repeat (first | refine awp_seq ?_ | refine then_n ?_ | refine then_r ?_ | refine then_x ?_ | refine block_n ?_ | refine block_r ?_ | refine block_x ?_ | refine u_y ?_ | refine loop_r ?_ | refine loop_x ?_ | refine awp_region ?_ | refine awpL_nil ?_ | refine awpQL_nil ?_ | refine awp_block ?_ | refine awp_skip ?_ | refine awp_exit ?_ | refine awp_label ?_ | refine u_dT ?_ | refine u_d ?_ | ((first | apply c_l | apply c_q | apply c_lr | apply c_qr); (iterate 2 exact rfl); (focus (first | exact p8)); (iterate 2 exact rfl)) | (apply v_c; (iterate 4 exact rfl); (focus (first | exact p8)); (iterate 2 exact rfl)) | refine u_l ?_ | refine u_o ?_ | refine u_q ?_ | refine u_lr ?_ | refine u_qr ?_ | refine u_ls ?_ | refine u_qs ?_ | refine u_t ?_ | refine u_f ?_ | refine v_s ?_ | refine v_o ?_ | refine v_on ?_ | refine v_og ?_ | refine v_q ?_ | refine v_sr ?_ | refine v_k ?_ | refine m_nil ?_)
        (refine awp_ret ?_; (repeat (first | refine then_r ?_ | refine block_r ?_ | refine loop_r ?_)); apply ret_ok (.inr rfl); (focus exact rfl))
        rw [show decide ((A2 : Int) < (A : Int)) = true from decide_eq_true (by omega)]
      | false =>
        rw [hbb] at p8
        repeat (first | refine awp_seq ?_ | refine then_n ?_ | refine then_r ?_ | refine then_x ?_ | refine block_n ?_ | refine block_r ?_ | refine block_x ?_ | refine u_y ?_ | refine loop_r ?_ | refine loop_x ?_ | refine awp_region ?_ | refine awpL_nil ?_ | refine awpQL_nil ?_ | refine awp_block ?_ | refine awp_skip ?_ | refine awp_exit ?_ | refine awp_label ?_ | refine u_dT ?_ | refine u_d ?_ | refine u_l ?_ | refine u_o ?_ | refine u_q ?_ | refine u_lr ?_ | refine u_qr ?_ | refine u_ls ?_ | refine u_qs ?_ | refine u_t ?_ | refine u_f ?_ | refine v_s ?_ | refine v_o ?_ | refine v_on ?_ | refine v_og ?_ | refine v_q ?_ | refine v_sr ?_ | refine v_k ?_ | refine m_nil ?_)
        rw [show decide ((A2 : Int) ≤ (A : Int)) = true from decide_eq_true hle2]
        repeat (first | refine awp_seq ?_ | refine then_n ?_ | refine then_r ?_ | refine then_x ?_ | refine block_n ?_ | refine block_r ?_ | refine block_x ?_ | refine u_y ?_ | refine loop_r ?_ | refine loop_x ?_ | refine awp_region ?_ | refine awpL_nil ?_ | refine awpQL_nil ?_ | refine awp_block ?_ | refine awp_skip ?_ | refine awp_exit ?_ | refine awp_label ?_ | refine u_dT ?_ | refine u_d ?_ | ((first | apply c_l | apply c_q | apply c_lr | apply c_qr); (iterate 2 exact rfl); (focus (first | exact p8)); (iterate 2 exact rfl)) | (apply v_c; (iterate 4 exact rfl); (focus (first | exact p8)); (iterate 2 exact rfl)) | refine u_l ?_ | refine u_o ?_ | refine u_q ?_ | refine u_lr ?_ | refine u_qr ?_ | refine u_ls ?_ | refine u_qs ?_ | refine u_t ?_ | refine u_f ?_ | refine v_s ?_ | refine v_o ?_ | refine v_on ?_ | refine v_og ?_ | refine v_q ?_ | refine v_sr ?_ | refine v_k ?_ | refine m_nil ?_)
        (refine awp_ret ?_; (repeat (first | refine then_r ?_ | refine block_r ?_ | refine loop_r ?_)); apply ret_ok (.inr rfl); (focus exact rfl))
        rfl
end Go.Proofs.Ytkaffmojojnhhaa
