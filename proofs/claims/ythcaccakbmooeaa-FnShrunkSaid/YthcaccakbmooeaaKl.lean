/- The law of Shrunk. No condition. -/
import Derived.Test.YthcaccakbmooeaaKi
import Derived.Test.YthcaccakbmooeaaTc
import Derived.Test.YthcaccakbmooeaaFwY
namespace Go.Proofs.Ythcaccakbmooeaa
open Go
attribute [local irreducible] awp awpL awpQL awpQ awpM pWalk Qt AC thenQ blockQ loopQ OpTo
set_option linter.unusedVariables false
set_option linter.unusedSimpArgs false
set_option maxHeartbeats 2000000
attribute [local irreducible] HC

/-! ### What stays kills what was killed, and each word of it something alone -/
section
variable {N M : Nat} {F : Nat → Nat → Bool}
theorem need_iff {K : Nat → Bool} {a : Nat} : need N M F K a = true ↔ ∃ k, k < M ∧ F a k = true ∧ ∀ i, i < N → i ≠ a → K i = true → F i k = false := by
  unfold need aloB othB
  simp only [List.any_eq_true, List.mem_range, Bool.and_eq_true, List.all_eq_true, Bool.or_eq_true, Bool.not_eq_true', decide_eq_true_eq]
  constructor
  · rintro ⟨k, hk, h1, h2⟩
    refine ⟨k, hk, h1, fun i hi ha hK => ?_⟩
    rcases h2 i hi with h | h | h
    · exact absurd h ha
    · rw [h] at hK; cases hK
    · exact h
  · rintro ⟨k, hk, h1, h2⟩
    refine ⟨k, hk, h1, fun i hi => ?_⟩
    by_cases ha : i = a
    · exact .inl ha
    · cases hK : K i
      · exact .inr (.inl rfl)
      · exact .inr (.inr (h2 i hi ha hK))
theorem kp_cov : ∀ (j : Nat), j ≤ N → ∀ k, k < M → (∃ i, i < N ∧ F i k = true) → ∃ i, i < N ∧ kp N M F j i = true ∧ F i k = true
  | 0, _, k, _, ⟨i, hi, h⟩ => ⟨i, hi, rfl, h⟩
  | j + 1, hj, k, hk, h => by
    obtain ⟨i, hi, h1, h2⟩ := kp_cov j (by omega) k hk h
    have hstep : ∀ i, kp N M F (j + 1) i = if i = N - 1 - j then need N M F (kp N M F j) (N - 1 - j) else kp N M F j i := fun i => rfl
    by_cases ha : i = N - 1 - j
    · cases hn : need N M F (kp N M F j) (N - 1 - j)
      · have : ∃ i', i' < N ∧ i' ≠ i ∧ kp N M F j i' = true ∧ F i' k = true := by
          apply Classical.byContradiction
          intro hc
          have : need N M F (kp N M F j) (N - 1 - j) = true := by
            rw [← ha]
            refine need_iff.2 ⟨k, hk, h2, fun i' hi' hne hK => ?_⟩
            cases hF : F i' k
            · rfl
            · exact absurd ⟨i', hi', hne, hK, hF⟩ hc
          rw [hn] at this
          cases this
        obtain ⟨i', g1, g2, g3, g4⟩ := this
        exact ⟨i', g1, by rw [hstep, if_neg (by omega)]; exact g3, g4⟩
      · exact ⟨i, hi, by rw [hstep, if_pos ha]; exact hn, h2⟩
    · exact ⟨i, hi, by rw [hstep, if_neg ha]; exact h1, h2⟩
theorem kp_mono {j : Nat} (hj : j < N) {i : Nat} (h : kp N M F (j + 1) i = true) : kp N M F j i = true := by
  have hstep : kp N M F (j + 1) i = if i = N - 1 - j then need N M F (kp N M F j) (N - 1 - j) else kp N M F j i := rfl
  by_cases ha : i = N - 1 - j
  · exact kp_old (by omega)
  · rw [hstep, if_neg ha] at h
    exact h
theorem kp_mono' : ∀ (e : Nat) {j : Nat}, j + e ≤ N → ∀ {i : Nat}, kp N M F (j + e) i = true → kp N M F j i = true
  | 0, _, _, _, h => h
  | e + 1, j, hj, i, h => kp_mono' e (by omega) (kp_mono (j := j + e) (by omega) h)
theorem kp_late {a : Nat} (ha : a < N) : ∀ (e : Nat), N - a + e ≤ N → kp N M F (N - a + e) a = kp N M F (N - a) a
  | 0, _ => rfl
  | e + 1, h => by
    have hstep : kp N M F (N - a + e + 1) a = if a = N - 1 - (N - a + e) then need N M F (kp N M F (N - a + e)) (N - 1 - (N - a + e)) else kp N M F (N - a + e) a := rfl
    show kp N M F (N - a + e + 1) a = _
    rw [hstep, if_neg (by omega)]
    exact kp_late ha e (by omega)
theorem kp_priv {a : Nat} (ha : a < N) (h : kp N M F N a = true) : ∃ k, k < M ∧ F a k = true ∧ ∀ i, i < N → i ≠ a → kp N M F N i = true → F i k = false := by
  have h1 := kp_late (F := F) (M := M) ha a (by omega)
  rw [show N - a + a = N by omega, h, show N - a = N - 1 - a + 1 by omega] at h1
  have hstep : kp N M F (N - 1 - a + 1) a = if a = N - 1 - (N - 1 - a) then need N M F (kp N M F (N - 1 - a)) (N - 1 - (N - 1 - a)) else kp N M F (N - 1 - a) a := rfl
  rw [hstep, if_pos (by omega), show N - 1 - (N - 1 - a) = a by omega] at h1
  obtain ⟨k, hk, g1, g2⟩ := need_iff.1 h1.symm
  refine ⟨k, hk, g1, fun i hi hne hK => g2 i hi hne ?_⟩
  have := kp_mono' (F := F) (M := M) (N := N) (a + 1) (j := N - 1 - a) (by omega) (i := i)
  rw [show N - 1 - a + (a + 1) = N by omega] at this
  exact this hK

theorem kepL_eq {ws : List (List Int)} {K : Nat → Bool} : ∀ n, kepL ws K n = ((List.range n).filter K).map (fun i => ws.getD i [])
  | 0 => rfl
  | n + 1 => by
    unfold kepL
    rw [kepL_eq n, List.range_succ, List.filter_append, List.map_append]
    congr 1
    cases h : K n <;> simp [List.filter, h]
/-- Each word of a list kills something that no other one kills. -/
def Priv (g : List Int → Nat → Bool) (M : Nat) (L : List (List Int)) : Prop := ∀ p (hp : p < L.length), ∃ k, k < M ∧ g L[p] k = true ∧ ∀ p' (hp' : p' < L.length), p' ≠ p → g L[p'] k = false
theorem priv_kep {g : List Int → Nat → Bool} {ws : List (List Int)} {K : Nat → Bool} (h : ∀ a, a < N → K a = true → ∃ k, k < M ∧ g (ws.getD a []) k = true ∧ ∀ i, i < N → i ≠ a → K i = true → g (ws.getD i []) k = false) : Priv g M (kepL ws K N) := by
  rw [kepL_eq]
  have hnd : ((List.range N).filter K).Nodup := List.nodup_range.filter _
  have hmem : ∀ x ∈ (List.range N).filter K, x < N ∧ K x = true := fun x hx => by
    have := List.mem_filter.1 hx
    exact ⟨List.mem_range.1 this.1, this.2⟩
  generalize (List.range N).filter K = ix at *
  intro p hp
  have hp0 : p < ix.length := by simpa using hp
  obtain ⟨h1, h2⟩ := hmem _ (List.getElem_mem hp0)
  obtain ⟨k, hk, g1, g2⟩ := h _ h1 h2
  refine ⟨k, hk, by rw [List.getElem_map]; exact g1, fun p' hp' hne => ?_⟩
  have hp1 : p' < ix.length := by simpa using hp'
  obtain ⟨h3, h4⟩ := hmem _ (List.getElem_mem hp1)
  rw [List.getElem_map]
  exact g2 _ h3 (fun he => hne ((List.getElem_inj hnd).1 he)) h4
theorem kepL_all {L : List (List Int)} {K : Nat → Bool} : ∀ n, n ≤ L.length → (∀ i, i < n → K i = true) → kepL L K n = L.take n
  | 0, _, _ => by simp [kepL]
  | n + 1, hn, h => by
    have hlt : n < L.length := by omega
    unfold kepL
    rw [kepL_all n (by omega) (fun i hi => h i (by omega)), h n (by omega), List.take_succ_eq_append_getElem hlt]
    simp [List.getD_eq_getElem?_getD, hlt]
theorem kp_all {g : List Int → Nat → Bool} {L : List (List Int)} (h : Priv g M L) : ∀ (j i : Nat), i < L.length → kp L.length M (fun i k => g (L.getD i []) k) j i = true
  | 0, _, _ => rfl
  | j + 1, i, hi => by
    have hstep : kp L.length M (fun i k => g (L.getD i []) k) (j + 1) i = if i = L.length - 1 - j then need L.length M (fun i k => g (L.getD i []) k) (kp L.length M (fun i k => g (L.getD i []) k) j) (L.length - 1 - j) else kp L.length M (fun i k => g (L.getD i []) k) j i := rfl
    rw [hstep]
    split
    · rename_i he
      rw [← he]
      obtain ⟨k, hk, g1, g2⟩ := h i hi
      refine need_iff.2 ⟨k, hk, by simpa [List.getD_eq_getElem?_getD, hi] using g1, fun i' hi' hne _ => ?_⟩
      have := g2 i' hi' hne
      simpa [List.getD_eq_getElem?_getD, hi'] using this
    · exact kp_all h j i hi
end

section
variable {s o : Int} {nx ou : List (List Int)}
/-- Does a word kill a mutant? -/
def kl1 (s o : Int) (nx ou : List (List Int)) (w : List Int) (k : Nat) : Bool := decide (0 ≤ failW nx ou (mutX s o nx ou k).1 (mutX s o nx ou k).2 0 0 0 w)
theorem failS_any (nx ou nx' ou' : List (List Int)) : ∀ (ws : List (List Int)) (i : Nat), decide (0 ≤ (failS nx ou nx' ou' i ws).1) = ws.any fun w => decide (0 ≤ failW nx ou nx' ou' 0 0 0 w)
  | [], i => by simp [failS]
  | w :: ws, i => by
    simp only [failS, List.any_cons]
    split
    · rename_i h
      rw [failS_any nx ou nx' ou' ws (i + 1), decide_eq_false (show ¬ 0 ≤ failW nx ou nx' ou' 0 0 0 w by omega), Bool.false_or]
    · rename_i h
      rw [decide_eq_true (show 0 ≤ failW nx ou nx' ou' 0 0 0 w by omega), Bool.true_or]
      simp
theorem kilB_any (ws : List (List Int)) (k : Nat) : kilB s o nx ou ws k = ws.any fun w => kl1 s o nx ou w k := failS_any ..
theorem kilL_congr {ws ws' : List (List Int)} : ∀ n, (∀ k : Nat, k < n → kilB s o nx ou ws k = kilB s o nx ou ws' k) → kilL s o nx ou ws n = kilL s o nx ou ws' n
  | 0, _ => rfl
  | n + 1, h => by
    unfold kilL
    rw [kilL_congr n (fun k hk => h k (by omega)), h n (by omega)]
theorem kilL_mono {ws ws' : List (List Int)} : ∀ n, (∀ k : Nat, k < n → kilB s o nx ou ws' k = true → kilB s o nx ou ws k = true) → (kilL s o nx ou ws' n).length ≤ (kilL s o nx ou ws n).length
  | 0, _ => Nat.le_refl _
  | n + 1, h => by
    have h1 := kilL_mono n (fun k hk => h k (by omega))
    have h2 := h n (by omega)
    unfold kilL
    simp only [List.length_append]
    cases hb : kilB s o nx ou ws' n
    · simp; omega
    · rw [h2 hb]; simp; omega
theorem kilL_lt {ws ws' : List (List Int)} {k0 : Nat} (h1 : kilB s o nx ou ws k0 = true) (h2 : kilB s o nx ou ws' k0 = false) : ∀ n, (∀ k : Nat, k < n → kilB s o nx ou ws' k = true → kilB s o nx ou ws k = true) → k0 < n → (kilL s o nx ou ws' n).length < (kilL s o nx ou ws n).length
  | 0, _, h => absurd h (Nat.not_lt_zero _)
  | n + 1, h, hk => by
    have h3 := h n (by omega)
    unfold kilL
    simp only [List.length_append]
    by_cases he : k0 = n
    · subst he
      have h4 := kilL_mono k0 (fun k hk => h k (by omega))
      rw [h1, h2]
      simp; omega
    · have h4 := kilL_lt h1 h2 n (fun k hk => h k (by omega)) (by omega)
      cases hb : kilB s o nx ou ws' n
      · simp; omega
      · rw [h3 hb]; simp; omega

/-- What stays of a suite. -/
def shL (s o : Int) (nx ou ws : List (List Int)) : List (List Int) := kepL ws (shF s o nx ou ws) ws.length
variable {ws : List (List Int)}
theorem shL_priv : Priv (kl1 s o nx ou) (mutN s o nx.length).toNat (shL s o nx ou ws) := priv_kep fun a ha h => kp_priv ha h
theorem shL_mem (w : List Int) (h : w ∈ shL s o nx ou ws) : w ∈ ws := kepL_mem (Nat.le_refl _) w h
theorem shL_len : (shL s o nx ou ws).length ≤ ws.length := kepL_len _
theorem shL_su {n : Nat} (h : SuOk n ws) : SuOk n (shL s o nx ou ws) := ⟨Nat.le_trans shL_len h.len, fun w hw => h.all w (shL_mem w hw)⟩
theorem shL_again : shL s o nx ou (shL s o nx ou ws) = shL s o nx ou ws := by
  have h := shL_priv (s := s) (o := o) (nx := nx) (ou := ou) (ws := ws)
  generalize shL s o nx ou ws = L at *
  unfold shL shF
  show kepL L (kp L.length (mutN s o nx.length).toNat (fun i k => kl1 s o nx ou (L.getD i []) k) L.length) L.length = L
  rw [kepL_all (K := kp L.length (mutN s o nx.length).toNat (fun i k => kl1 s o nx ou (L.getD i []) k) L.length) L.length (Nat.le_refl _) (fun i hi => kp_all h _ i hi), List.take_length]
theorem shL_kil : kilL s o nx ou (shL s o nx ou ws) (mutN s o nx.length).toNat = kilL s o nx ou ws (mutN s o nx.length).toNat := kilL_congr _ fun k hk => by
  rw [kilB_any, kilB_any, Bool.eq_iff_iff]
  simp only [List.any_eq_true]
  constructor
  · rintro ⟨w, hw, h⟩
    exact ⟨w, shL_mem w hw, h⟩
  · rintro ⟨w, hw, h⟩
    obtain ⟨i, hi, rfl⟩ := List.mem_iff_getElem.1 hw
    obtain ⟨i', h1, h2, h3⟩ := kp_cov (N := ws.length) (M := (mutN s o nx.length).toNat) (F := kW s o nx ou ws) ws.length (Nat.le_refl _) k hk ⟨i, hi, by unfold kW; simpa [List.getD_eq_getElem?_getD, hi, kl1] using h⟩
    refine ⟨ws.getD i' [], ?_, h3⟩
    unfold shL
    rw [kepL_eq]
    exact List.mem_map.2 ⟨i', List.mem_filter.2 ⟨List.mem_range.2 h1, h2⟩, rfl⟩
theorem shL_left {L : List (List Int)} {M : Nat} (h : Priv (kl1 s o nx ou) M L) {i : Nat} (hi : i < L.length) : (kilL s o nx ou (L.take i ++ L.drop (i + 1)) M).length < (kilL s o nx ou L M).length := by
  obtain ⟨k, hk, h1, h2⟩ := h i hi
  have hsub : ∀ w ∈ L.take i ++ L.drop (i + 1), ∃ p, ∃ hp : p < L.length, p ≠ i ∧ w = L[p] := fun w hw => by
    rcases List.mem_append.1 hw with hw | hw
    · obtain ⟨p, hp, rfl⟩ := List.mem_iff_getElem.1 hw
      have hp0 : p < min i L.length := by simpa using hp
      have hp' : p < i ∧ p < L.length := by omega
      exact ⟨p, hp'.2, by omega, by simp⟩
    · obtain ⟨p, hp, rfl⟩ := List.mem_iff_getElem.1 hw
      have hp' : p < L.length - (i + 1) := by simpa using hp
      exact ⟨i + 1 + p, by omega, by omega, by simp⟩
  refine kilL_lt (k0 := k) ?_ ?_ M (fun k' hk' hb => ?_) hk
  · rw [kilB_any, List.any_eq_true]
    exact ⟨L[i], List.getElem_mem hi, h1⟩
  · rw [kilB_any, List.any_eq_false]
    intro w hw
    obtain ⟨p, hp, hne, rfl⟩ := hsub w hw
    simp [h2 p hp hne]
  · rw [kilB_any, List.any_eq_true] at hb ⊢
    obtain ⟨w, hw, hb⟩ := hb
    obtain ⟨p, hp, _, rfl⟩ := hsub w hw
    exact ⟨_, List.getElem_mem hp, hb⟩
end
end Go.Proofs.Ythcaccakbmooeaa

/-! The law of Shrunk: the walk. No condition. -/
namespace Go.Proofs.Ythcaccakbmooeaa
open Go
attribute [local irreducible] awp awpL awpQL awpQ awpM pWalk Qt AC thenQ blockQ loopQ OpTo
set_option linter.unusedVariables false
set_option linter.unusedSimpArgs false
set_option maxHeartbeats 2000000
attribute [local irreducible] HC

theorem laws_f6in {ws : List (List Int)} {w : List Int} (h1 : RowsOk ws) (h2 : w.length ≤ 9223372036854775807) : AC Try.prog 26 [rows ws, ints w] (.bool (decide (w ∈ ws))) := by
  have hle : (List.map ints ws).length = ws.length := by simp
  have h1' := h1.2
  refine ac_intro tabIs _ Try.func26 rfl rfl Try.ntmps26 rfl rfl fun w0 ok0 => ?_
  repeat (first | refine awp_seq ?_ | refine then_n ?_ | refine then_r ?_ | refine then_x ?_ | refine block_n ?_ | refine block_r ?_ | refine block_x ?_ | refine u_y ?_ | refine loop_r ?_ | refine loop_x ?_ | refine awp_region ?_ | refine awpL_nil ?_ | refine awpQL_nil ?_ | refine awp_block ?_ | refine awp_skip ?_ | refine awp_exit ?_ | refine awp_label ?_ | refine u_dT ?_ | refine u_d ?_ | refine u_l ?_ | refine u_o ?_ | refine u_q ?_ | refine u_lr ?_ | refine u_qr ?_ | refine u_ls ?_ | refine u_qs ?_ | refine u_t ?_ | refine u_f ?_ | refine v_s ?_ | refine v_o ?_ | refine v_on ?_ | refine v_og ?_ | refine v_q ?_ | refine v_sr ?_ | refine v_k ?_ | refine m_nil ?_)
  refine awp_loop (fun i : Nat => i ≤ ws.length ∧ w ∉ ws.take i) (fun i => [(0, .d (rows ws)), (1, .d (ints w)), (5, .d (.int .i64 i))]) (fun i => []) (fun i => ws.length - i) 0 ⟨by omega, by simp⟩ ?_ rfl ?_
  · ((repeat (first | exact trivial | (refine ⟨?_, ?_⟩; (focus (first | rfl | (simp [lk, argsS, args0]; done) | (simp [lk, argsS, args0]; omega)))))))
  · rintro i ⟨hi, hno⟩
    by_cases hlt : i < ws.length
    · have hx := el_row hlt
      have e1 := laws_f6ints (a := ws[i]) (b := w) (h1.1 _ (List.getElem_mem hlt)).2 h2
      by_cases he : ws[i] = w
      · rw [decide_eq_true he] at e1
        repeat (first | refine awp_seq ?_ | refine then_n ?_ | refine then_r ?_ | refine then_x ?_ | refine block_n ?_ | refine block_r ?_ | refine block_x ?_ | refine u_y ?_ | refine loop_r ?_ | refine loop_x ?_ | refine awp_region ?_ | refine awpL_nil ?_ | refine awpQL_nil ?_ | refine awp_block ?_ | refine awp_skip ?_ | refine awp_exit ?_ | refine awp_label ?_ | refine u_dT ?_ | refine u_d ?_ | ((first | apply c_l | apply c_q | apply c_lr | apply c_qr); (iterate 2 exact rfl); (focus (first | exact e1)); (iterate 2 exact rfl)) | (apply v_c; (iterate 4 exact rfl); (focus (first | exact e1)); (iterate 2 exact rfl)) | refine u_l ?_ | refine u_o ?_ | refine u_q ?_ | refine u_lr ?_ | refine u_qr ?_ | refine u_ls ?_ | refine u_qs ?_ | refine u_t ?_ | refine u_f ?_ | refine v_s ?_ | refine v_o ?_ | refine v_on ?_ | refine v_og ?_ | refine v_q ?_ | refine v_sr ?_ | refine v_k ?_ | refine m_nil ?_)
        (refine awp_ret ?_; (repeat (first | refine then_r ?_ | refine block_r ?_ | refine loop_r ?_)); apply ret_ok (.inr rfl); (focus exact rfl))
        rw [decide_eq_true (he ▸ List.getElem_mem hlt)]
      · rw [decide_eq_false he] at e1
        repeat (first | refine awp_seq ?_ | refine then_n ?_ | refine then_r ?_ | refine then_x ?_ | refine block_n ?_ | refine block_r ?_ | refine block_x ?_ | refine u_y ?_ | refine loop_r ?_ | refine loop_x ?_ | refine awp_region ?_ | refine awpL_nil ?_ | refine awpQL_nil ?_ | refine awp_block ?_ | refine awp_skip ?_ | refine awp_exit ?_ | refine awp_label ?_ | refine u_dT ?_ | refine u_d ?_ | ((first | apply c_l | apply c_q | apply c_lr | apply c_qr); (iterate 2 exact rfl); (focus (first | exact e1)); (iterate 2 exact rfl)) | (apply v_c; (iterate 4 exact rfl); (focus (first | exact e1)); (iterate 2 exact rfl)) | refine u_l ?_ | refine u_o ?_ | refine u_q ?_ | refine u_lr ?_ | refine u_qr ?_ | refine u_ls ?_ | refine u_qs ?_ | refine u_t ?_ | refine u_f ?_ | refine v_s ?_ | refine v_o ?_ | refine v_on ?_ | refine v_og ?_ | refine v_q ?_ | refine v_sr ?_ | refine v_k ?_ | refine m_nil ?_)
        refine loop_n (i + 1) ⟨by omega, ?_⟩ ?_ rfl (by omega)
        · rw [List.take_succ_eq_append_getElem hlt]
          simp only [List.mem_append, List.mem_singleton, not_or]
          exact ⟨hno, fun h => he h.symm⟩
        · ((repeat (first | exact trivial | (refine ⟨?_, ?_⟩; (focus (first | rfl | (simp [lk, argsS, args0]; done) | (simp [lk, argsS, args0]; omega)))))))
    · have hie : i = ws.length := by omega
      subst hie
      rw [List.take_length] at hno
      rw [decide_eq_false hno]
      repeat (first | refine awp_seq ?_ | refine then_n ?_ | refine then_r ?_ | refine then_x ?_ | refine block_n ?_ | refine block_r ?_ | refine block_x ?_ | refine u_y ?_ | refine loop_r ?_ | refine loop_x ?_ | refine awp_region ?_ | refine awpL_nil ?_ | refine awpQL_nil ?_ | refine awp_block ?_ | refine awp_skip ?_ | refine awp_exit ?_ | refine awp_label ?_ | refine u_dT ?_ | refine u_d ?_ | refine u_l ?_ | refine u_o ?_ | refine u_q ?_ | refine u_lr ?_ | refine u_qr ?_ | refine u_ls ?_ | refine u_qs ?_ | refine u_t ?_ | refine u_f ?_ | refine v_s ?_ | refine v_o ?_ | refine v_on ?_ | refine v_og ?_ | refine v_q ?_ | refine v_sr ?_ | refine v_k ?_ | refine m_nil ?_)
      (refine awp_ret ?_; (repeat (first | refine then_r ?_ | refine block_r ?_ | refine loop_r ?_)); apply ret_ok (.inr rfl); (focus exact rfl))
      rfl

section
variable {s o : Int} {nx ou ws : List (List Int)}
theorem shD_v (m : MV s o nx ou) (h : SuOk nx.length ws) : shD s o nx ou ws = (shL s o nx ou ws, 0) := by
  unfold shD
  rw [if_pos (machOk_mv m), if_pos (suiteOk_su h)]
  rfl
theorem impl_ShrinkSuiteV (m : MV s o nx ou) (h : SuOk nx.length ws) : AC Try.prog 23 [mach s o nx ou, rows ws] (.tup [rows (shL s o nx ou ws), .int .i64 0]) := by
  have := impl_ShrinkSuiteH (s := s) (o := o) m.rnx m.rou (h.rows (by have := m.n1; omega))
  rw [shD_v m h] at this
  have := ac_of_hc (xs := [mach s o nx ou, rows ws]) (d := .tup [.lst ((rws (shL s o nx ou ws)).map D.lst), .int .i64 0]) this rfl
  rwa [rws_dat] at this
theorem spec_ShrinkSuiteV (m : MV s o nx ou) (h : SuOk nx.length ws) : AC Try.prog 24 [mach s o nx ou, rows ws] (.tup [rows (shL s o nx ou ws), .int .i64 0]) := by
  have := spec_ShrinkSuite (s := s) (o := o) m.rnx m.rou (h.rows (by have := m.n1; omega))
  rwa [shD_v m h] at this
end
theorem elsOk_rows : ∀ nss : List (List Int), elsOk 1 (nss.map ints) = true
  | [] => rfl
  | ns :: nss => by simp [elsOk, D.el, D.one, D.width, ints, elsOk_rows nss]

theorem law_FnShrunk {code more : List Int} (hb : BytesOk code) (hb2 : BytesOk more) : AC Try.prog 5 [u8s code, u8s more] (.bool true) := by
  have g1 := laws_f6big (code := code)
  have g2 := laws_f6big (code := more)
  by_cases c1 : (4096 : Int) < code.length
  · rw [decide_eq_true c1] at g1
    refine ac_intro tabIs _ Try.func5 rfl rfl Try.ntmps5 rfl rfl fun w0 ok0 => ?_
    repeat (first | refine awp_seq ?_ | refine then_n ?_ | refine then_r ?_ | refine then_x ?_ | refine block_n ?_ | refine block_r ?_ | refine block_x ?_ | refine u_y ?_ | refine loop_r ?_ | refine loop_x ?_ | refine awp_region ?_ | refine awpL_nil ?_ | refine awpQL_nil ?_ | refine awp_block ?_ | refine awp_skip ?_ | refine awp_exit ?_ | refine awp_label ?_ | refine u_dT ?_ | refine u_d ?_ | ((first | apply c_l | apply c_q | apply c_lr | apply c_qr); (iterate 2 exact rfl); (focus (first | exact g1)); (iterate 2 exact rfl)) | (apply v_c; (iterate 4 exact rfl); (focus (first | exact g1)); (iterate 2 exact rfl)) | refine u_l ?_ | refine u_o ?_ | refine u_q ?_ | refine u_lr ?_ | refine u_qr ?_ | refine u_ls ?_ | refine u_qs ?_ | refine u_t ?_ | refine u_f ?_ | refine v_s ?_ | refine v_o ?_ | refine v_on ?_ | refine v_og ?_ | refine v_q ?_ | refine v_sr ?_ | refine v_k ?_ | refine m_nil ?_)
    (refine awp_ret ?_; (repeat (first | refine then_r ?_ | refine block_r ?_ | refine loop_r ?_)); apply ret_ok (.inr rfl); (focus exact rfl))
    rfl
  rw [decide_eq_false c1] at g1
  by_cases c2 : (4096 : Int) < more.length
  · rw [decide_eq_true c2] at g2
    refine ac_intro tabIs _ Try.func5 rfl rfl Try.ntmps5 rfl rfl fun w0 ok0 => ?_
    repeat (first | refine awp_seq ?_ | refine then_n ?_ | refine then_r ?_ | refine then_x ?_ | refine block_n ?_ | refine block_r ?_ | refine block_x ?_ | refine u_y ?_ | refine loop_r ?_ | refine loop_x ?_ | refine awp_region ?_ | refine awpL_nil ?_ | refine awpQL_nil ?_ | refine awp_block ?_ | refine awp_skip ?_ | refine awp_exit ?_ | refine awp_label ?_ | refine u_dT ?_ | refine u_d ?_ | ((first | apply c_l | apply c_q | apply c_lr | apply c_qr); (iterate 2 exact rfl); (focus (first | exact g1 | exact g2)); (iterate 2 exact rfl)) | (apply v_c; (iterate 4 exact rfl); (focus (first | exact g1 | exact g2)); (iterate 2 exact rfl)) | refine u_l ?_ | refine u_o ?_ | refine u_q ?_ | refine u_lr ?_ | refine u_qr ?_ | refine u_ls ?_ | refine u_qs ?_ | refine u_t ?_ | refine u_f ?_ | refine v_s ?_ | refine v_o ?_ | refine v_on ?_ | refine v_og ?_ | refine v_q ?_ | refine v_sr ?_ | refine v_k ?_ | refine m_nil ?_)
    (refine awp_ret ?_; (repeat (first | refine then_r ?_ | refine block_r ?_ | refine loop_r ?_)); apply ret_ok (.inr rfl); (focus exact rfl))
    rfl
  rw [decide_eq_false c2] at g2
  have p1 := spec_P6Machine hb
  have m := mv_pmM hb
  generalize pmM code = M at *
  obtain ⟨s, o, nx, ou⟩ := M
  dsimp only at p1 m
  have hn := m.n1
  have p2 := spec_P6Suite (code := more) (s := s) (o := o) (nx := nx) (ou := ou) hb2 (by omega)
  have su := su_psM (n := nx.length) hb2 (by omega)
  generalize psM more nx.length = ws at *
  have suL := shL_su (s := s) (o := o) (nx := nx) (ou := ou) su
  have hpr := shL_priv (s := s) (o := o) (nx := nx) (ou := ou) (ws := ws)
  have p3 := impl_ShrinkSuiteV m su
  have p3' := spec_ShrinkSuiteV m su
  have p4 := impl_KilledByV m su
  have p4' := impl_KilledByV m suL
  have p5 := impl_ShrinkSuiteV m suL
  rw [shL_kil] at p4'
  rw [shL_again] at p5
  have hkl := kilL_len s o nx ou ws (mutN s o nx.length).toNat
  have hN := mutN_bounds m.s1 m.o1 m.n1.2
  have pE := laws_f6ints (a := kilL s o nx ou ws (mutN s o nx.length).toNat) (b := kilL s o nx ou ws (mutN s o nx.length).toNat) (by omega) (by omega)
  rw [decide_eq_true rfl] at pE
  have hmem := shL_mem (s := s) (o := o) (nx := nx) (ou := ou) (ws := ws)
  have hleft : ∀ i, i < (shL s o nx ou ws).length → (kilL s o nx ou ((shL s o nx ou ws).take i ++ (shL s o nx ou ws).drop (i + 1)) (mutN s o nx.length).toNat).length < (kilL s o nx ou ws (mutN s o nx.length).toNat).length := fun i hi => by
    have := shL_left hpr hi
    rwa [shL_kil] at this
  generalize shL s o nx ou ws = L at *
  generalize kilL s o nx ou ws (mutN s o nx.length).toNat = B at *
  have rL := suL.rows (by omega)
  have pR := laws_f6rows rL rL
  rw [decide_eq_true rfl] at pR
  have hLl := suL.len
  have hle : (List.map ints L).length = L.length := by simp
  have hleB : (List.map (D.int .i64) B).length = B.length := by simp
  have hel : elsOk 1 (List.map ints L) = true := elsOk_rows L
  refine ac_intro tabIs _ Try.func5 rfl rfl Try.ntmps5 rfl rfl fun w0 ok0 => ?_
  repeat (first | refine awp_seq ?_ | refine then_n ?_ | refine then_r ?_ | refine then_x ?_ | refine block_n ?_ | refine block_r ?_ | refine block_x ?_ | refine u_y ?_ | refine loop_r ?_ | refine loop_x ?_ | refine awp_region ?_ | refine awpL_nil ?_ | refine awpQL_nil ?_ | refine awp_block ?_ | refine awp_skip ?_ | refine awp_exit ?_ | refine awp_label ?_ | refine u_dT ?_ | refine u_d ?_ | ((first | apply c_l | apply c_q | apply c_lr | apply c_qr); (iterate 2 exact rfl); (focus (first | exact g1 | exact g2 | exact p1 | exact p2 | exact p3 | exact p3' | exact p4 | exact p4' | exact p5 | exact pE | exact pR)); (iterate 2 exact rfl)) | (apply v_c; (iterate 4 exact rfl); (focus (first | exact g1 | exact g2 | exact p1 | exact p2 | exact p3 | exact p3' | exact p4 | exact p4' | exact p5 | exact pE | exact pR)); (iterate 2 exact rfl)) | refine u_l ?_ | refine u_o ?_ | refine u_q ?_ | refine u_lr ?_ | refine u_qr ?_ | refine u_ls ?_ | refine u_qs ?_ | refine u_t ?_ | refine u_f ?_ | refine v_s ?_ | refine v_o ?_ | refine v_on ?_ | refine v_og ?_ | refine v_q ?_ | refine v_sr ?_ | refine v_k ?_ | refine m_nil ?_)
  refine awp_loop (fun i : Nat => i ≤ L.length) (fun i => [(5, .ref 5 0), (6, .d (rows ws)), (9, .d (rows L)), (13, .d (ints B)), (17, .d (.int .i64 i))]) (fun i => [(5, .box [.d (.int .i64 s), .d (.int .i64 o), .d (rows nx), .d (rows ou)])])
    (fun i => L.length - i) 0 (by omega) ?_ rfl ?_
  · ((repeat (first | exact trivial | (refine ⟨?_, ?_⟩; (focus (first | rfl | (simp [lk, argsS, args0]; done) | (simp [lk, argsS, args0]; omega)))))))
  · intro i hi
    by_cases hlt : i < L.length
    · have hx := el_row hlt
      have hlf := hleft i hlt
      have suI : SuOk nx.length (L.take i ++ L.drop (i + 1)) := ⟨by have := suL.len; simp; omega, fun w hw => suL.all w (by
        rcases List.mem_append.1 hw with hw | hw
        · exact List.mem_of_mem_take hw
        · exact List.mem_of_mem_drop hw)⟩
      have p6 := impl_KilledByV m suI
      have hkI := kilL_len s o nx ou (L.take i ++ L.drop (i + 1)) (mutN s o nx.length).toNat
      generalize kilL s o nx ou (L.take i ++ L.drop (i + 1)) (mutN s o nx.length).toNat = C at *
      have hleC : (List.map (D.int .i64) C).length = C.length := by simp
      have p7 := laws_f6in (ws := ws) (w := L[i]) (su.rows (by omega)) (rL.1 _ (List.getElem_mem hlt)).2
      rw [decide_eq_true (hmem _ (List.getElem_mem hlt))] at p7
      repeat (first | refine awp_seq ?_ | refine then_n ?_ | refine then_r ?_ | refine then_x ?_ | refine block_n ?_ | refine block_r ?_ | refine block_x ?_ | refine u_y ?_ | refine loop_r ?_ | refine loop_x ?_ | refine awp_region ?_ | refine awpL_nil ?_ | refine awpQL_nil ?_ | refine awp_block ?_ | refine awp_skip ?_ | refine awp_exit ?_ | refine awp_label ?_ | refine u_l ?_ | refine u_o ?_ | refine u_q ?_ | refine u_lr ?_ | refine u_qr ?_ | refine u_ls ?_ | refine u_qs ?_ | refine u_t ?_ | refine u_f ?_ | refine v_s ?_ | refine v_o ?_ | refine v_on ?_ | refine v_og ?_ | refine v_q ?_ | refine v_sr ?_ | refine v_k ?_ | refine m_nil ?_)
      refine u_m [(0, [103]), (4, [103]), (9, [103])] (.tk [103] [1, 2, 3, 5, 6, 7, 8] (.tk [] [0, 4, 9, 10] .done)) ?_
      repeat (first | refine v_w (t := 103) ?_ | refine awp_seq ?_ | refine then_n ?_ | refine then_r ?_ | refine then_x ?_ | refine block_n ?_ | refine block_r ?_ | refine block_x ?_ | refine u_y ?_ | refine loop_r ?_ | refine loop_x ?_ | refine awp_region ?_ | refine awpL_nil ?_ | refine awpQL_nil ?_ | refine awp_block ?_ | refine awp_skip ?_ | refine awp_exit ?_ | refine awp_label ?_ | refine u_dT ?_ | refine u_d ?_ | refine u_w (t := 103) ?_ | ((first | apply x_l | apply x_q | apply x_lr | apply x_qr); (focus (first | (apply qa_slice_h; (iterate 8 (focus (first | exact rfl | (first | assumption | omega | (simp; omega) | (simp; done) | rfl))))) | (apply qa_slice_l; (iterate 8 (focus (first | exact rfl | (first | assumption | omega | (simp; omega) | (simp; done) | rfl))))))); exact rfl) | (apply v_x; (iterate 2 exact rfl); (focus (intro ok0 nw hle; (first | (apply qa_slice_h; (iterate 8 (focus (first | exact rfl | (first | assumption | omega | (simp; omega) | (simp; done) | rfl))))) | (apply qa_slice_l; (iterate 8 (focus (first | exact rfl | (first | assumption | omega | (simp; omega) | (simp; done) | rfl)))))))); (iterate 2 exact rfl)) | refine u_l ?_ | refine u_o ?_ | refine u_q ?_ | refine u_lr ?_ | refine u_qr ?_ | refine u_ls ?_ | refine u_qs ?_ | refine u_t ?_ | refine u_f ?_ | refine v_s ?_ | refine v_o ?_ | refine v_on ?_ | refine v_og ?_ | refine v_q ?_ | refine v_sr ?_ | refine v_k ?_ | refine m_nil ?_)
      rw [show ((i : Int) + 1).toNat = i + 1 by omega, Int.toNat_natCast, ← List.map_take, ← List.map_drop]
      refine v_o (ho := by intro rest; apply wo_append; (iterate 14 exact rfl); exact elsOk_rows _; (simp; omega)) ?_
      repeat (first | refine awp_seq ?_ | refine then_n ?_ | refine then_r ?_ | refine then_x ?_ | refine block_n ?_ | refine block_r ?_ | refine block_x ?_ | refine u_y ?_ | refine loop_r ?_ | refine loop_x ?_ | refine awp_region ?_ | refine awpL_nil ?_ | refine awpQL_nil ?_ | refine awp_block ?_ | refine awp_skip ?_ | refine awp_exit ?_ | refine awp_label ?_ | refine u_dT ?_ | refine u_d ?_ | refine u_l ?_ | refine u_o ?_ | refine u_q ?_ | refine u_lr ?_ | refine u_qr ?_ | refine u_ls ?_ | refine u_qs ?_ | refine u_t ?_ | refine u_f ?_ | refine v_s ?_ | refine v_o ?_ | refine v_on ?_ | refine v_og ?_ | refine v_q ?_ | refine v_sr ?_ | refine v_k ?_ | refine m_nil ?_)
      refine v_o (ho := by intro rest; apply wo_append; (iterate 14 exact rfl); exact elsOk_rows _; (simp; omega)) ?_
      repeat (first | refine awp_seq ?_ | refine then_n ?_ | refine then_r ?_ | refine then_x ?_ | refine block_n ?_ | refine block_r ?_ | refine block_x ?_ | refine u_y ?_ | refine loop_r ?_ | refine loop_x ?_ | refine awpL_nil ?_ | refine awpQL_nil ?_ | refine awp_block ?_ | refine awp_skip ?_ | refine awp_exit ?_ | refine awp_label ?_ | refine u_dT ?_ | refine u_d ?_ | refine u_l ?_ | refine u_o ?_ | refine u_q ?_ | refine u_lr ?_ | refine u_qr ?_ | refine u_ls ?_ | refine u_qs ?_ | refine u_t ?_ | refine u_f ?_ | refine v_s ?_ | refine v_o ?_ | refine v_on ?_ | refine v_og ?_ | refine v_q ?_ | refine v_sr ?_ | refine v_k ?_ | refine m_nil ?_)
      refine awp_freeze 103 rfl rfl ?_
      rw [List.nil_append, ← List.map_append]
      repeat (first | refine awp_seq ?_ | refine then_n ?_ | refine then_r ?_ | refine then_x ?_ | refine block_n ?_ | refine block_r ?_ | refine block_x ?_ | refine u_y ?_ | refine loop_r ?_ | refine loop_x ?_ | refine awp_region ?_ | refine awpL_nil ?_ | refine awpQL_nil ?_ | refine awp_block ?_ | refine awp_skip ?_ | refine awp_exit ?_ | refine awp_label ?_ | refine u_dT ?_ | refine u_d ?_ | ((first | apply c_l | apply c_q | apply c_lr | apply c_qr); (iterate 2 exact rfl); (focus (first | exact p6)); (iterate 2 exact rfl)) | (apply v_c; (iterate 4 exact rfl); (focus (first | exact p6)); (iterate 2 exact rfl)) | refine u_l ?_ | refine u_o ?_ | refine u_q ?_ | refine u_lr ?_ | refine u_qr ?_ | refine u_ls ?_ | refine u_qs ?_ | refine u_t ?_ | refine u_f ?_ | refine v_s ?_ | refine v_o ?_ | refine v_on ?_ | refine v_og ?_ | refine v_q ?_ | refine v_sr ?_ | refine v_k ?_ | refine m_nil ?_)
      rw [hleB, hleC, decide_eq_false (show ¬ (B.length : Int) ≤ (C.length : Int) by omega)]
      repeat (first | refine awp_seq ?_ | refine then_n ?_ | refine then_r ?_ | refine then_x ?_ | refine block_n ?_ | refine block_r ?_ | refine block_x ?_ | refine u_y ?_ | refine loop_r ?_ | refine loop_x ?_ | refine awp_region ?_ | refine awpL_nil ?_ | refine awpQL_nil ?_ | refine awp_block ?_ | refine awp_skip ?_ | refine awp_exit ?_ | refine awp_label ?_ | refine u_dT ?_ | refine u_d ?_ | ((first | apply c_l | apply c_q | apply c_lr | apply c_qr); (iterate 2 exact rfl); (focus (first | exact p7)); (iterate 2 exact rfl)) | (apply v_c; (iterate 4 exact rfl); (focus (first | exact p7)); (iterate 2 exact rfl)) | refine u_l ?_ | refine u_o ?_ | refine u_q ?_ | refine u_lr ?_ | refine u_qr ?_ | refine u_ls ?_ | refine u_qs ?_ | refine u_t ?_ | refine u_f ?_ | refine v_s ?_ | refine v_o ?_ | refine v_on ?_ | refine v_og ?_ | refine v_q ?_ | refine v_sr ?_ | refine v_k ?_ | refine m_nil ?_)
      refine loop_n (i + 1) (by omega) ?_ rfl (by omega)
      ((repeat (first | exact trivial | (refine ⟨?_, ?_⟩; (focus (first | rfl | (simp [lk, argsS, args0]; done) | (simp [lk, argsS, args0]; omega)))))))
    · have hie : i = L.length := by omega
      subst hie
      repeat (first | refine awp_seq ?_ | refine then_n ?_ | refine then_r ?_ | refine then_x ?_ | refine block_n ?_ | refine block_r ?_ | refine block_x ?_ | refine u_y ?_ | refine loop_r ?_ | refine loop_x ?_ | refine awp_region ?_ | refine awpL_nil ?_ | refine awpQL_nil ?_ | refine awp_block ?_ | refine awp_skip ?_ | refine awp_exit ?_ | refine awp_label ?_ | refine u_dT ?_ | refine u_d ?_ | refine u_l ?_ | refine u_o ?_ | refine u_q ?_ | refine u_lr ?_ | refine u_qr ?_ | refine u_ls ?_ | refine u_qs ?_ | refine u_t ?_ | refine u_f ?_ | refine v_s ?_ | refine v_o ?_ | refine v_on ?_ | refine v_og ?_ | refine v_q ?_ | refine v_sr ?_ | refine v_k ?_ | refine m_nil ?_)
      (refine awp_ret ?_; (repeat (first | refine then_r ?_ | refine block_r ?_ | refine loop_r ?_)); apply ret_ok (.inr rfl); (focus exact rfl))
      rfl

end Go.Proofs.Ythcaccakbmooeaa
