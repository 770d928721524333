/- Elements that are deleted from a row. No condition. -/
import Derived.Test.YtkaffmojojnhhaaHa
namespace Go.Proofs.Ytkaffmojojnhhaa
open Go
attribute [local irreducible] awp awpL awpQL awpQ awpM pWalk Qt AC thenQ blockQ loopQ OpTo
set_option linter.unusedVariables false
set_option linter.unusedSimpArgs false
set_option maxHeartbeats 2000000
attribute [local irreducible] HC

section
variable {α : Type}
/-- Of the first ones those that stay. -/
def kpG (p : List Int → Bool) (ws : List (List Int)) (l : List α) : Nat → List α
  | 0 => []
  | j + 1 => kpG p ws l j ++ match l[j]? with
    | some x => if p (ws.getD j []) then [] else [x]
    | none => []
theorem kpG_len {p : List Int → Bool} {ws : List (List Int)} {l : List α} : ∀ j, (kpG p ws l j).length ≤ j
  | 0 => Nat.le_refl _
  | j + 1 => by
    have := kpG_len (p := p) (ws := ws) (l := l) j
    unfold kpG
    rw [List.length_append]
    cases l[j]? with
    | none => simp; omega
    | some x => simp only []; split <;> simp <;> omega
theorem kpG_step {p : List Int → Bool} {ws : List (List Int)} {l : List α} {j : Nat} {x : α} (hx : l[j]? = some x) : kpG p ws l (j + 1) = kpG p ws l j ++ if p (ws.getD j []) then [] else [x] := by
  conv => lhs; unfold kpG
  rw [hx]
theorem kpG_none {p : List Int → Bool} {ws : List (List Int)} {l : List α} : ∀ j, j ≤ l.length → (∀ i, i < j → p (ws.getD i []) = false) → kpG p ws l j = l.take j
  | 0, _, _ => by simp [kpG]
  | j + 1, hj, h => by
    have ih := kpG_none (p := p) (ws := ws) (l := l) j (by omega) fun i hi => h i (by omega)
    have hx : l[j]? = some (l[j]'(by omega)) := List.getElem?_eq_getElem (by omega)
    rw [kpG_step hx, ih, h j (by omega), List.take_succ_eq_append_getElem (by omega)]
    simp
/-- What the row holds when the first ones have been looked at. -/
def delA (p : List Int → Bool) (ws : List (List Int)) (l : List α) : Nat → List α
  | 0 => l
  | j + 1 => match l[j]? with
    | some x => if p (ws.getD j []) then delA p ws l j else (delA p ws l j).set (kpG p ws l j).length x
    | none => delA p ws l j
theorem delA_step {p : List Int → Bool} {ws : List (List Int)} {l : List α} {j : Nat} {x : α} (hx : l[j]? = some x) : delA p ws l (j + 1) = if p (ws.getD j []) then delA p ws l j else (delA p ws l j).set (kpG p ws l j).length x := by
  conv => lhs; unfold delA
  rw [hx]
theorem delA_len {p : List Int → Bool} {ws : List (List Int)} {l : List α} : ∀ j, (delA p ws l j).length = l.length
  | 0 => rfl
  | j + 1 => by
    have := delA_len (p := p) (ws := ws) (l := l) j
    unfold delA
    cases l[j]? with
    | none => exact this
    | some x => simp only []; split <;> simp [this]
theorem delA_get {p : List Int → Bool} {ws : List (List Int)} {l : List α} : ∀ j i : Nat, j ≤ i → (delA p ws l j)[i]? = l[i]?
  | 0, _, _ => rfl
  | j + 1, i, h => by
    have ih := delA_get (p := p) (ws := ws) (l := l) j i (by omega)
    have hk := kpG_len (p := p) (ws := ws) (l := l) j
    unfold delA
    cases l[j]? with
    | none => exact ih
    | some x =>
      simp only []
      split
      · exact ih
      · rw [List.getElem?_set_ne (by omega)]; exact ih
theorem delA_take {p : List Int → Bool} {ws : List (List Int)} {l : List α} : ∀ j, j ≤ l.length → (delA p ws l j).take (kpG p ws l j).length = kpG p ws l j
  | 0, _ => by simp [kpG]
  | j + 1, hj => by
    have ih := delA_take (p := p) (ws := ws) (l := l) j (by omega)
    have hk := kpG_len (p := p) (ws := ws) (l := l) j
    have hl := delA_len (p := p) (ws := ws) (l := l) j
    have hx : l[j]? = some (l[j]'(by omega)) := List.getElem?_eq_getElem (by omega)
    rw [kpG_step hx]
    unfold delA
    rw [hx]
    simp only []
    split
    · simpa using ih
    · rw [List.length_append, List.length_singleton, List.take_succ_eq_append_getElem (by simp; omega), List.take_set_of_le (Nat.le_refl _), ih]
      simp
theorem delA_same {p : List Int → Bool} {ws : List (List Int)} {l : List α} : ∀ j, j ≤ l.length → (∀ i, i < j → p (ws.getD i []) = false) → delA p ws l j = l
  | 0, _, _ => rfl
  | j + 1, hj, h => by
    have ih := delA_same (p := p) (ws := ws) (l := l) j (by omega) fun i hi => h i (by omega)
    have hk := kpG_none (p := p) (ws := ws) (l := l) j (by omega) fun i hi => h i (by omega)
    have hx : l[j]? = some (l[j]'(by omega)) := List.getElem?_eq_getElem (by omega)
    unfold delA
    rw [hx]
    simp only []
    rw [h j (by omega), ih, hk, List.length_take, Nat.min_eq_left (by omega)]
    simp
theorem kpG_src {β : Type} {p : List Int → Bool} {ws : List (List Int)} {l : List α} {m : List β} (hlm : l.length = m.length) : ∀ (j : Nat), j ≤ l.length → (kpG p ws l j).length = (kpG p ws m j).length ∧ ∀ (i : Nat) x, (kpG p ws l j)[i]? = some x → ∃ k : Nat, l[k]? = some x ∧ (kpG p ws m j)[i]? = m[k]?
  | 0, _ => ⟨rfl, fun i x h => by simp [kpG] at h⟩
  | j + 1, hj => by
    obtain ⟨ih1, ih2⟩ := kpG_src (p := p) (ws := ws) hlm j (by omega)
    have hx : l[j]? = some (l[j]'(by omega)) := List.getElem?_eq_getElem (by omega)
    have hy : m[j]? = some (m[j]'(by omega)) := List.getElem?_eq_getElem (by omega)
    rw [kpG_step hx, kpG_step hy]
    split
    · simpa using ⟨ih1, ih2⟩
    · refine ⟨by simp [ih1], fun i x h => ?_⟩
      rcases Nat.lt_trichotomy i (kpG p ws l j).length with hi | hi | hi
      · rw [List.getElem?_append_left hi] at h
        rw [List.getElem?_append_left (by omega)]
        exact ih2 i x h
      · rw [List.getElem?_append_right (by omega), hi, Nat.sub_self] at h
        rw [List.getElem?_append_right (by omega), hi, ih1, Nat.sub_self]
        simp at h
        subst h
        exact ⟨j, hx, by rw [hy]; rfl⟩
      · rw [List.getElem?_eq_none (by simp; omega)] at h; cases h
theorem kpG_filter {p : List Int → Bool} {ws : List (List Int)} : ∀ j, j ≤ ws.length → kpG p ws ws j = (ws.take j).filter fun w => !p w
  | 0, _ => by simp [kpG]
  | j + 1, hj => by
    have ih := kpG_filter (p := p) (ws := ws) j (by omega)
    have hx : ws[j]? = some (ws[j]'(by omega)) := List.getElem?_eq_getElem (by omega)
    rw [kpG_step hx, ih, List.take_succ_eq_append_getElem (by omega), List.filter_append]
    rw [show ws.getD j [] = ws[j]'(by omega) by simp [List.getD_eq_getElem?_getD, hx]]
    cases hp : p (ws[j]'(by omega)) <;> simp [hp]
end
theorem kpG_le {p : List Int → Bool} {ws : List (List Int)} {ds : List D} (hlen : ds.length = ws.length) (hle : ∀ (i : Nat) d w, ds[i]? = some d → ws[i]? = some w → D.Le d (ints w)) : D.Le (.lst (kpG p ws ds ws.length)) (rows (kpG p ws ws ws.length)) := by
  obtain ⟨h1, h2⟩ := kpG_src (p := p) (ws := ws) hlen ws.length (by omega)
  refine .lst _ _ (by simpa using h1) fun i x y hx hy => ?_
  obtain ⟨k, hk, hk2⟩ := h2 i x hx
  rw [List.getElem?_map, hk2, Option.map_eq_some_iff] at hy
  obtain ⟨w, hw, rfl⟩ := hy
  exact hle k x w hk hw

theorem findI_spec {p : List Int → Bool} : ∀ (ws : List (List Int)) (k : Nat), (findI p k ws = -1 ∧ ∀ w ∈ ws, p w = false) ∨ ∃ i : Nat, i < ws.length ∧ findI p k ws = (k : Int) + i ∧ p (ws.getD i []) = true ∧ ∀ j, j < i → p (ws.getD j []) = false
  | [], k => .inl ⟨rfl, by simp⟩
  | w :: ws, k => by
    unfold findI
    cases hp : p w with
    | true => exact .inr ⟨0, by simp, by simp, by simpa using hp, by omega⟩
    | false =>
      simp only [Bool.false_eq_true, if_false]
      rcases findI_spec ws (k + 1) with ⟨h1, h2⟩ | ⟨i, h1, h2, h3, h4⟩
      · exact .inl ⟨h1, by simpa [hp] using h2⟩
      · refine .inr ⟨i + 1, by simp; omega, by rw [h2]; push_cast; omega, by simpa using h3, fun j hj => ?_⟩
        cases j with
        | zero => simpa using hp
        | succ j => simpa using h4 j (by omega)

theorem slices_DeleteFunc {ds : List D} {ws : List (List Int)} {g : Nat} {cap : List D} (p : List Int → Bool) (hlen : ds.length = ws.length) (hle : ∀ (i : Nat) d w, ds[i]? = some d → ws[i]? = some w → D.Le d (ints w)) (hel : ∀ d ∈ ds, d.el = true ∧ d.width = 1 ∧ d.one = true)
    (hl : ws.length ≤ 100000) (hp : ∀ w ∈ ws, AC Try.prog g (ints w :: cap) (.bool (p w))) :
    HC Try.prog 49 [.own 20000, .d (.fn g cap)] [(20000, .arr 26 1 ds)] (.own 20000) [(20000, .arr 26 1 (kpG p ws ds ws.length))] := by
  have eI : AC Try.prog 91 [.lst ds, .fn g cap] (.int .i64 (findI p 0 ws)) := (indexFunc_row p hp (by omega)).le rfl fun i x y hx hy => by
    match i with
    | 0 =>
      simp at hx hy; subst hx hy
      exact .lst _ _ (by simpa using hlen) fun k d y hd hy => by
        rw [List.getElem?_map, Option.map_eq_some_iff] at hy
        obtain ⟨w, hw, rfl⟩ := hy
        exact hle k d w hd hw
    | 1 => simp at hx hy; subst hx hy; exact .refl _
    | k + 2 => simp at hx
  rcases findI_spec (p := p) ws 0 with ⟨h1, h2⟩ | ⟨i0, h1, h2, h3, h4⟩
  · rw [h1] at eI
    have hall : kpG p ws ds ws.length = ds := by
      rw [kpG_none _ (by omega) fun i hi => by rw [List.getD_eq_getElem?_getD, List.getElem?_eq_getElem hi]; exact h2 _ (List.getElem_mem hi), List.take_of_length_le (by omega)]
    rw [hall]
    refine hc_intro tabIs _ Try.func49 rfl rfl Try.ntmps49 rfl rfl rfl ?_ fun w0 ok0 XM XA anc => ?_
    · exact fun p hp ha => by simp at hp; subst hp; cases ha
    repeat (first | refine awp_seq ?_ | refine then_n ?_ | refine then_r ?_ | refine then_x ?_ | refine block_n ?_ | refine block_r ?_ | refine block_x ?_ | refine u_y ?_ | refine loop_r ?_ | refine loop_x ?_ | refine awp_region ?_ | refine awpL_nil ?_ | refine awpQL_nil ?_ | refine awp_block ?_ | refine awp_skip ?_ | refine awp_exit ?_ | refine awp_label ?_ | refine u_dT ?_ | refine u_d ?_ | ((first | apply c_l | apply c_q | apply c_lr | apply c_qr); (iterate 2 exact rfl); (focus (first | exact eI)); (iterate 2 exact rfl)) | (apply v_c; (iterate 4 exact rfl); (focus (first | exact eI)); (iterate 2 exact rfl)) | refine u_l ?_ | refine u_o ?_ | refine u_q ?_ | refine u_lr ?_ | refine u_qr ?_ | refine u_ls ?_ | refine u_qs ?_ | refine u_t ?_ | refine u_f ?_ | refine v_s ?_ | refine v_o ?_ | refine v_on ?_ | refine v_og ?_ | refine v_q ?_ | refine v_sr ?_ | refine v_k ?_ | refine m_nil ?_)
    (refine awp_ret ?_; (repeat (first | refine then_r ?_ | refine block_r ?_ | refine loop_r ?_)); refine u_rH [(20000, 20000)] ?_ ?_)
    · rfl
    · rfl
  · rw [h2] at eI
    have hpi : p (ws.getD i0 []) = true := h3
    have hx0 : ds[i0]? = some (ds[i0]'(by omega)) := List.getElem?_eq_getElem (by omega)
    have hd1 : delA p ws ds (i0 + 1) = ds := by
      have := delA_same (p := p) (ws := ws) (l := ds) i0 (by omega) h4
      rw [delA_step hx0, if_pos hpi, this]
    have hk1 : (kpG p ws ds (i0 + 1)).length = i0 := by
      rw [kpG_step hx0, hpi, kpG_none _ (by omega) h4]
      simp; omega
    have hq : ∀ (j : Nat) d, ds[j]? = some d → AC Try.prog g (d :: cap) (.bool (p (ws.getD j []))) := fun j d hd => by
      have hj : j < ws.length := by
        rcases Nat.lt_or_ge j ds.length with h | h
        · omega
        · simp [h] at hd
      have hw : ws[j]? = some ws[j] := List.getElem?_eq_getElem hj
      rw [show ws.getD j [] = ws[j] by simp [List.getD_eq_getElem?_getD, hw]]
      exact (hp _ (List.getElem_mem hj)).le rfl fun i x y hx hy => by
        match i with
        | 0 => simp at hx hy; subst hx hy; exact hle j _ _ hd hw
        | i + 1 => simp at hx hy; rw [hx] at hy; cases hy; exact .refl _
    refine hc_intro tabIs _ Try.func49 rfl rfl Try.ntmps49 rfl rfl rfl ?_ fun w0 ok0 XM XA anc => ?_
    · exact fun p hp ha => by simp at hp; subst hp; cases ha
    repeat (first | refine awp_seq ?_ | refine then_n ?_ | refine then_r ?_ | refine then_x ?_ | refine block_n ?_ | refine block_r ?_ | refine block_x ?_ | refine u_y ?_ | refine loop_r ?_ | refine loop_x ?_ | refine awp_region ?_ | refine awpL_nil ?_ | refine awpQL_nil ?_ | refine awp_block ?_ | refine awp_skip ?_ | refine awp_exit ?_ | refine awp_label ?_ | refine u_dT ?_ | refine u_d ?_ | ((first | apply c_l | apply c_q | apply c_lr | apply c_qr); (iterate 2 exact rfl); (focus (first | exact eI)); (iterate 2 exact rfl)) | (apply v_c; (iterate 4 exact rfl); (focus (first | exact eI)); (iterate 2 exact rfl)) | refine u_l ?_ | refine u_o ?_ | refine u_q ?_ | refine u_lr ?_ | refine u_qr ?_ | refine u_ls ?_ | refine u_qs ?_ | refine u_t ?_ | refine u_f ?_ | refine v_s ?_ | refine v_o ?_ | refine v_on ?_ | refine v_og ?_ | refine v_q ?_ | refine v_sr ?_ | refine v_k ?_ | refine m_nil ?_)
    refine awp_loop (fun j : Nat => i0 + 1 ≤ j ∧ j ≤ ws.length) (fun j => [(0, .own 20000), (1, .d (.fn g cap)), (5, .d (.int .i64 (kpG p ws ds j).length)), (6, .d (.int .i64 j))]) (fun j => [(20000, .arr 26 1 (delA p ws ds j))]) (fun j => ws.length - j) (i0 + 1) ⟨Nat.le_refl _, h1⟩ ?_ ?_ ?_
    · rw [hk1]
      refine ⟨rfl, rfl, ?_, ?_, trivial⟩
      · show SV.d (.int .i64 ((0 : Int) + i0)) = _
        rw [Int.zero_add]
      · show SV.d (.int .i64 ((0 : Int) + i0 + 1)) = SV.d (.int .i64 ((i0 + 1 : Nat) : Int))
        rw [Int.zero_add]; rfl
    · rw [hd1]
    · rintro j ⟨hj0, hj⟩
      have hA := delA_len (p := p) (ws := ws) (l := ds) j
      have hK := kpG_len (p := p) (ws := ws) (l := ds) j
      by_cases hlt : j < ws.length
      · have hx : ds[j]? = some (ds[j]'(by omega)) := List.getElem?_eq_getElem (by omega)
        have hxA : (delA p ws ds j)[(j : Int).toNat]? = some (ds[j]'(by omega)) := by rw [Int.toNat_natCast, delA_get j j (Nat.le_refl _)]; exact hx
        obtain ⟨d1, d2, d3⟩ := hel _ (List.getElem_mem (show j < ds.length by omega))
        have eq := hq j _ hx
        have hsA := delA_step (p := p) (ws := ws) hx
        have hsK := kpG_step (p := p) (ws := ws) hx
        generalize ds[j]'(by omega) = d at *
        generalize ws.getD j [] = w at *
        cases hpw : p w with
        | true =>
          rw [hpw] at eq
          rw [hpw, if_pos rfl] at hsA
          rw [hpw, if_pos rfl, List.append_nil] at hsK
          repeat (first | refine awp_seq ?_ | refine then_n ?_ | refine then_r ?_ | refine then_x ?_ | refine block_n ?_ | refine block_r ?_ | refine block_x ?_ | refine u_y ?_ | refine loop_r ?_ | refine loop_x ?_ | refine awp_region ?_ | refine awpL_nil ?_ | refine awpQL_nil ?_ | refine awp_block ?_ | refine awp_skip ?_ | refine awp_exit ?_ | refine awp_label ?_ | refine u_dT ?_ | refine u_d ?_ | ((first | apply x_l | apply x_q | apply x_lr | apply x_qr); (focus (first | (apply wa_loadElt; (iterate 6 (focus (first | exact rfl | (first | assumption | omega | (simp; omega) | (simp; done) | rfl))))))); exact rfl) | ((first | apply c_l | apply c_q | apply c_lr | apply c_qr); (iterate 2 exact rfl); (focus (first | exact eq)); (iterate 2 exact rfl)) | (apply v_x; (iterate 2 exact rfl); (focus (intro ok0 nw hle; (first | (apply wa_loadElt; (iterate 6 (focus (first | exact rfl | (first | assumption | omega | (simp; omega) | (simp; done) | rfl)))))))); (iterate 2 exact rfl)) | (apply v_c; (iterate 4 exact rfl); (focus (first | exact eq)); (iterate 2 exact rfl)) | refine u_l ?_ | refine u_o ?_ | refine u_q ?_ | refine u_lr ?_ | refine u_qr ?_ | refine u_ls ?_ | refine u_qs ?_ | refine u_t ?_ | refine u_f ?_ | refine v_s ?_ | refine v_o ?_ | refine v_on ?_ | refine v_og ?_ | refine v_q ?_ | refine v_sr ?_ | refine v_k ?_ | refine m_nil ?_)
          refine loop_n (j + 1) ⟨by omega, by omega⟩ ?_ ?_ (by omega)
          · rw [hsK]; ((repeat (first | exact trivial | (refine ⟨?_, ?_⟩; (focus (first | rfl | (simp [lk, argsS, args0]; done) | (simp [lk, argsS, args0]; omega)))))))
          · rw [hsA]
        | false =>
          rw [hpw] at eq
          rw [hpw, if_neg (by simp)] at hsA
          rw [hpw, if_neg (by simp)] at hsK
          repeat (first | refine awp_seq ?_ | refine then_n ?_ | refine then_r ?_ | refine then_x ?_ | refine block_n ?_ | refine block_r ?_ | refine block_x ?_ | refine u_y ?_ | refine loop_r ?_ | refine loop_x ?_ | refine awp_region ?_ | refine awpL_nil ?_ | refine awpQL_nil ?_ | refine awp_block ?_ | refine awp_skip ?_ | refine awp_exit ?_ | refine awp_label ?_ | refine u_dT ?_ | refine u_d ?_ | ((first | apply x_l | apply x_q | apply x_lr | apply x_qr); (focus (first | (apply wa_loadElt; (iterate 6 (focus (first | exact rfl | (first | assumption | omega | (simp; omega) | (simp; done) | rfl))))))); exact rfl) | ((first | apply c_l | apply c_q | apply c_lr | apply c_qr); (iterate 2 exact rfl); (focus (first | exact eq)); (iterate 2 exact rfl)) | (apply v_x; (iterate 2 exact rfl); (focus (intro ok0 nw hle; (first | (apply wa_loadElt; (iterate 6 (focus (first | exact rfl | (first | assumption | omega | (simp; omega) | (simp; done) | rfl)))))))); (iterate 2 exact rfl)) | (apply v_c; (iterate 4 exact rfl); (focus (first | exact eq)); (iterate 2 exact rfl)) | refine u_l ?_ | refine u_o ?_ | refine u_q ?_ | refine u_lr ?_ | refine u_qr ?_ | refine u_ls ?_ | refine u_qs ?_ | refine u_t ?_ | refine u_f ?_ | refine v_s ?_ | refine v_o ?_ | refine v_on ?_ | refine v_og ?_ | refine v_q ?_ | refine v_sr ?_ | refine v_k ?_ | refine m_nil ?_)
          refine awpL_to rfl (by apply wo_storeElt; (iterate 4 exact rfl); exact d1; exact d2; exact rfl; (simp only [Int.toNat_natCast]; omega)) ?_
          repeat (first | refine awp_seq ?_ | refine then_n ?_ | refine then_r ?_ | refine then_x ?_ | refine block_n ?_ | refine block_r ?_ | refine block_x ?_ | refine u_y ?_ | refine loop_r ?_ | refine loop_x ?_ | refine awp_region ?_ | refine awpL_nil ?_ | refine awpQL_nil ?_ | refine awp_block ?_ | refine awp_skip ?_ | refine awp_exit ?_ | refine awp_label ?_ | refine u_dT ?_ | refine u_d ?_ | refine u_l ?_ | refine u_o ?_ | refine u_q ?_ | refine u_lr ?_ | refine u_qr ?_ | refine u_ls ?_ | refine u_qs ?_ | refine u_t ?_ | refine u_f ?_ | refine v_s ?_ | refine v_o ?_ | refine v_on ?_ | refine v_og ?_ | refine v_q ?_ | refine v_sr ?_ | refine v_k ?_ | refine m_nil ?_)
          refine loop_n (j + 1) ⟨by omega, by omega⟩ ?_ ?_ (by omega)
          · rw [hsK, List.length_append, List.length_singleton, Int.natCast_add]; ((repeat (first | exact trivial | (refine ⟨?_, ?_⟩; (focus (first | rfl | (simp [lk, argsS, args0]; done) | (simp [lk, argsS, args0]; omega)))))))
          · rw [hsA]; rfl
      · have hje : j = ws.length := by omega
        subst hje
        have hT := delA_take (p := p) (ws := ws) (l := ds) ws.length (by omega)
        repeat (first | refine awp_seq ?_ | refine then_n ?_ | refine then_r ?_ | refine then_x ?_ | refine block_n ?_ | refine block_r ?_ | refine block_x ?_ | refine u_y ?_ | refine loop_r ?_ | refine loop_x ?_ | refine awp_region ?_ | refine awpL_nil ?_ | refine awpQL_nil ?_ | refine awp_block ?_ | refine awp_skip ?_ | refine awp_exit ?_ | refine awp_label ?_ | refine u_dT ?_ | refine u_d ?_ | refine u_l ?_ | refine u_o ?_ | refine u_q ?_ | refine u_lr ?_ | refine u_qr ?_ | refine u_ls ?_ | refine u_qs ?_ | refine u_t ?_ | refine u_f ?_ | refine v_s ?_ | refine v_o ?_ | refine v_on ?_ | refine v_og ?_ | refine v_q ?_ | refine v_sr ?_ | refine v_k ?_ | refine m_nil ?_)
        refine awpL_clear ?_ rfl rfl rfl rfl rfl rfl rfl rfl rfl rfl rfl rfl rfl (by omega) (by omega)
        repeat (first | refine awp_seq ?_ | refine then_n ?_ | refine then_r ?_ | refine then_x ?_ | refine block_n ?_ | refine block_r ?_ | refine block_x ?_ | refine u_y ?_ | refine loop_r ?_ | refine loop_x ?_ | refine awp_region ?_ | refine awpL_nil ?_ | refine awpQL_nil ?_ | refine awp_block ?_ | refine awp_skip ?_ | refine awp_exit ?_ | refine awp_label ?_ | refine u_dT ?_ | refine u_d ?_ | refine u_l ?_ | refine u_o ?_ | refine u_q ?_ | refine u_lr ?_ | refine u_qr ?_ | refine u_ls ?_ | refine u_qs ?_ | refine u_t ?_ | refine u_f ?_ | refine v_s ?_ | refine v_o ?_ | refine v_on ?_ | refine v_og ?_ | refine v_q ?_ | refine v_sr ?_ | refine v_k ?_ | refine m_nil ?_)
        refine awpL_to rfl (by apply wo_cut; (iterate 8 exact rfl); omega; (simp only [Int.toNat_natCast, List.length_append, List.length_take, List.length_replicate]; omega)) ?_
        repeat (first | refine awp_seq ?_ | refine then_n ?_ | refine then_r ?_ | refine then_x ?_ | refine block_n ?_ | refine block_r ?_ | refine block_x ?_ | refine u_y ?_ | refine loop_r ?_ | refine loop_x ?_ | refine awp_region ?_ | refine awpL_nil ?_ | refine awpQL_nil ?_ | refine awp_block ?_ | refine awp_skip ?_ | refine awp_exit ?_ | refine awp_label ?_ | refine u_dT ?_ | refine u_d ?_ | refine u_l ?_ | refine u_o ?_ | refine u_q ?_ | refine u_lr ?_ | refine u_qr ?_ | refine u_ls ?_ | refine u_qs ?_ | refine u_t ?_ | refine u_f ?_ | refine v_s ?_ | refine v_o ?_ | refine v_on ?_ | refine v_og ?_ | refine v_q ?_ | refine v_sr ?_ | refine v_k ?_ | refine m_nil ?_)
        have hfin : List.take ((kpG p ws ds ws.length).length : Int).toNat (List.take ((kpG p ws ds ws.length).length : Int).toNat (delA p ws ds ws.length) ++ List.replicate ((delA p ws ds ws.length).length - ((kpG p ws ds ws.length).length : Int).toNat) D.nils) = kpG p ws ds ws.length := by
          rw [Int.toNat_natCast, hT, List.take_left' rfl]
        (refine awp_ret ?_; (repeat (first | refine then_r ?_ | refine block_r ?_ | refine loop_r ?_)); refine u_rH [(20000, 20000)] ?_ ?_)
        · rfl
        · exact congrArg (fun l => some [(20000, Chunk.arr 26 1 l)]) hfin
end Go.Proofs.Ytkaffmojojnhhaa
