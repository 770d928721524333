/- The depths of all sets, in the reference. No condition. -/
import Derived.Test.YtkomkhigcdkpdaaDc
namespace Go.Proofs.Ytkomkhigcdkpdaa
open Go
attribute [local irreducible] awp awpL awpQL awpQ awpM pWalk Qt AC thenQ blockQ loopQ OpTo
set_option linter.unusedVariables false
set_option linter.unusedSimpArgs false
set_option maxHeartbeats 2000000
attribute [local irreducible] HC

/-- The depth of a set within d rounds. -/
def dN (nx : List (List Int)) (lp : List Int) (d f : Nat) : Int := dv sm (bel nx lp) nx.length 4 d f
/-- One round more finds nothing more among these. -/
def still (nx : List (List Int)) (lp : List Int) (l : List Nat) (d : Nat) : Prop := ∀ f ∈ l, dN nx lp (d + 1) f = dN nx lp d f

theorem first_ex {P : Nat → Prop} : ∀ k, P k → ∃ D, D ≤ k ∧ P D ∧ ∀ d, d < D → ¬ P d := fun k => by
  induction k using Nat.strongRecOn with
  | _ k ih =>
    intro h
    by_cases he : ∃ d, d < k ∧ P d
    · obtain ⟨d, hd, hp⟩ := he
      obtain ⟨D, h1, h2⟩ := ih d hd hp
      exact ⟨D, by omega, h2⟩
    · exact ⟨k, Nat.le_refl _, h, fun d hd hp => he ⟨d, hd, hp⟩⟩

theorem still_no {nx : List (List Int)} {lp : List Int} {l : List Nat} {d : Nat} (h : ¬ still nx lp l d) : ∃ f ∈ l, dN nx lp d f < 0 ∧ 0 ≤ dN nx lp (d + 1) f := by
  by_cases he : ∃ f ∈ l, dN nx lp d f < 0 ∧ 0 ≤ dN nx lp (d + 1) f
  · exact he
  · exact absurd (dv_same1 he) h

theorem still_ex (nx : List (List Int)) (lp : List Int) (l : List Nat) : ∃ D, D ≤ l.length ∧ still nx lp l D ∧ ∀ d, d < D → ¬ still nx lp l d := by
  have key : ∃ k, k ≤ l.length ∧ still nx lp l k := by
    by_cases he : ∃ k, k ≤ l.length ∧ still nx lp l k
    · exact he
    · have hu : ∀ k, k ≤ l.length + 1 → unk sm (bel nx lp) nx.length 4 l k + k ≤ l.length := fun k => by
        induction k with
        | zero => exact fun _ => unk_len
        | succ k ih =>
          intro hk
          have h1 := ih (by omega)
          have h2 := unk_lt (still_no (nx := nx) (lp := lp) (l := l) (d := k) fun h => he ⟨k, by omega, h⟩)
          omega
      have := hu (l.length + 1) (Nat.le_refl _)
      omega
  obtain ⟨k, hk, hs⟩ := key
  obtain ⟨D, h1, h2, h3⟩ := first_ex k hs
  exact ⟨D, by omega, h2, h3⟩

theorem dN_range {nx : List (List Int)} {lp : List Int} {d f : Nat} : dN nx lp d f = -1 ∨ (0 ≤ dN nx lp d f ∧ dN nx lp d f ≤ d) := dv_range d f
theorem new_iff {nx : List (List Int)} {lp : List Int} {d f : Nat} (h : dN nx lp d f < 0) : 0 ≤ dN nx lp (d + 1) f ↔ ∃ x, x < nx.length ∧ good sm (bel nx lp) nx.length 4 d f x = true := by
  have : dN nx lp (d + 1) f = if ∃ x, x < nx.length ∧ good sm (bel nx lp) nx.length 4 d f x = true then ((d + 1 : Nat) : Int) else -1 := by
    show dv _ _ _ _ _ _ = _
    rw [dv_succ, if_neg (by show ¬ 0 ≤ dN nx lp d f; omega)]
  rw [this]
  by_cases he : ∃ x, x < nx.length ∧ good sm (bel nx lp) nx.length 4 d f x = true
  · rw [if_pos he]; exact ⟨fun _ => he, fun _ => by omega⟩
  · rw [if_neg he]; exact ⟨fun h => by omega, fun h => absurd h he⟩
theorem new_val {nx : List (List Int)} {lp : List Int} {d f : Nat} (h : dN nx lp d f < 0) (h2 : 0 ≤ dN nx lp (d + 1) f) : dN nx lp (d + 1) f = ((d + 1 : Nat) : Int) := by
  have he := (new_iff h).1 h2
  show dv _ _ _ _ _ _ = _
  rw [dv_succ, if_neg (by show ¬ 0 ≤ dN nx lp d f; omega), if_pos he]
theorem old_val {nx : List (List Int)} {lp : List Int} {d f : Nat} (h : ¬ (dN nx lp d f < 0 ∧ 0 ≤ dN nx lp (d + 1) f)) : dN nx lp (d + 1) f = dN nx lp d f := by
  rcases dN_range (nx := nx) (lp := lp) (d := d) (f := f) with h1 | h1
  · rcases dN_range (nx := nx) (lp := lp) (d := d + 1) (f := f) with h2 | h2
    · omega
    · exact absurd ⟨by omega, h2.1⟩ h
  · exact dv_pos_up h1.1 (by omega)
theorem wors_iff {nx : List (List Int)} {lp : List Int} {d f x : Nat} : 0 ≤ wors (fun y => dN nx lp d (bel nx lp f x y)) 4 ↔ good sm (bel nx lp) nx.length 4 d f x = true := by
  rw [good_iff]
  unfold wors
  split
  · rename_i h; exact ⟨fun _ => h, fun _ => wst_range⟩
  · rename_i h; exact ⟨fun h => by omega, fun h' => absurd h' h⟩

/-- The sets that a round finds. -/
def fnd (nx : List (List Int)) (lp : List Int) (d k : Nat) : List Nat := (List.range k).filter fun g => decide (dN nx lp d g < 0) && decide (0 ≤ dN nx lp (d + 1) g)
theorem fnd_succ {nx : List (List Int)} {lp : List Int} {d k : Nat} : fnd nx lp d (k + 1) = fnd nx lp d k ++ if dN nx lp d k < 0 ∧ 0 ≤ dN nx lp (d + 1) k then [k] else [] := by
  unfold fnd
  rw [List.range_succ, List.filter_append]
  congr 1
  by_cases h : dN nx lp d k < 0 ∧ 0 ≤ dN nx lp (d + 1) k
  · rw [if_pos h]; simp [h.1, h.2]
  · rw [if_neg h]
    have : (decide (dN nx lp d k < 0) && decide (0 ≤ dN nx lp (d + 1) k)) = false := by
      cases e : (decide (dN nx lp d k < 0) && decide (0 ≤ dN nx lp (d + 1) k)) with
      | false => rfl
      | true => simp only [Bool.and_eq_true, decide_eq_true_eq] at e; exact absurd e h
    simp [this]
theorem mem_fnd {nx : List (List Int)} {lp : List Int} {d k g : Nat} : g ∈ fnd nx lp d k ↔ g < k ∧ dN nx lp d g < 0 ∧ 0 ≤ dN nx lp (d + 1) g := by
  unfold fnd
  rw [List.mem_filter, List.mem_range]
  simp
theorem fnd_len {nx : List (List Int)} {lp : List Int} {d k : Nat} : (fnd nx lp d k).length ≤ k := by
  have := List.length_filter_le (fun g => decide (dN nx lp d g < 0) && decide (0 ≤ dN nx lp (d + 1) g)) (List.range k)
  rwa [List.length_range] at this

theorem spec_l08Depths {s : Int} {nx : List (List Int)} {lp : List Int} (v : LV s nx lp) {Z : Nat} (hst : still nx lp (List.range (2 ^ s.toNat)) Z) (hmin : ∀ d, d < Z → ¬ still nx lp (List.range (2 ^ s.toNat)) d) (hD : Z ≤ 2 ^ s.toNat) :
    AC Try.prog 46 [.ptr (.agg [.int .i64 s, rows nx, ints lp])] (ints (fnL (2 ^ s.toNat) (dN nx lp Z))) := by
  have hs := v.s1
  have hn := v.n1
  have hp := pow_le (m := s.toNat) (by omega)
  have htw : two s = ((2 ^ s.toNat : Nat) : Int) := rfl
  have ht2 : 0 ≤ two s ∧ two s ≤ 1024 := by rw [htw]; omega
  have hlen : ∀ F, ((fnL (2 ^ s.toNat) F).map (D.int .i64)).length = 2 ^ s.toNat := fun F => by simp [fnL]
  have hle : (List.map ints nx).length = nx.length := by simp
  have hN : ∀ F : Nat → Int, (fnL (two s).toNat F) = fnL (2 ^ s.toNat) F := fun F => by rw [htw, Int.toNat_natCast]
  generalize hNN : 2 ^ s.toNat = N at *
  refine ac_intro tabIs _ Try.func46 rfl rfl Try.ntmps46 rfl rfl fun w0 ok0 => ?_
  repeat (first | refine awp_seq ?_ | refine then_n ?_ | refine then_r ?_ | refine then_x ?_ | refine block_n ?_ | refine block_r ?_ | refine block_x ?_ | refine u_y ?_ | refine loop_r ?_ | refine loop_x ?_ | refine awp_region ?_ | refine awpL_nil ?_ | refine awpQL_nil ?_ | refine awp_block ?_ | refine awp_skip ?_ | refine awp_exit ?_ | refine awp_label ?_ | refine u_dT ?_ | refine u_d ?_ | ((first | apply x_l | apply x_q | apply x_lr | apply x_qr); (focus (first | (apply qi_conv; (iterate 5 (focus (first | exact rfl | (first | assumption | omega | (simp; omega) | (simp; done) | rfl))))) | (apply qi_one; (iterate 2 (focus (first | exact rfl | (first | assumption | omega | (simp; omega) | (simp; done) | rfl))))))); exact rfl) | (apply v_x; (iterate 2 exact rfl); (focus (intro ok0 nw hle; (first | (apply qi_conv; (iterate 5 (focus (first | exact rfl | (first | assumption | omega | (simp; omega) | (simp; done) | rfl))))) | (apply qi_one; (iterate 2 (focus (first | exact rfl | (first | assumption | omega | (simp; omega) | (simp; done) | rfl)))))))); (iterate 2 exact rfl)) | refine u_l ?_ | refine u_o ?_ | refine u_q ?_ | refine u_lr ?_ | refine u_qr ?_ | refine u_ls ?_ | refine u_qs ?_ | refine u_t ?_ | refine u_f ?_ | refine v_s ?_ | refine v_o ?_ | refine v_on ?_ | refine v_og ?_ | refine v_q ?_ | refine v_sr ?_ | refine v_k ?_ | refine m_nil ?_)
  refine awp_loop (fun k : Nat => k ≤ N) (fun k => [(0, .d (.ptr (.agg [.int .i64 s, rows nx, ints lp]))), (3, .own 17), (4, .d (.int .i64 k))]) (fun k => [(17, .arr 2 1 ((fnL N fun g => if g < k then dN nx lp 0 g else 0).map (.int .i64)))]) (fun k => N - k) 0 (by omega) ?_ ?_ ?_
  · ((repeat (first | exact trivial | (refine ⟨?_, ?_⟩; (focus (first | rfl | (simp [lk, argsS, args0]; done) | (simp [lk, argsS, args0]; omega)))))))
  · have : (two s).toNat = N := by rw [htw, Int.toNat_natCast]
    simp only [this, Nat.not_lt_zero, if_false]
    have h0 : (fnL N fun _ => 0).map (D.int .i64) = List.replicate N (.int .i64 0) := by
      unfold fnL
      rw [List.map_map]
      exact List.eq_replicate_iff.2 ⟨by simp, fun b hb => by simp at hb; exact hb.2.symm⟩
    rw [h0]
    rfl
  · intro k hk
    have hl := hlen fun g => if g < k then dN nx lp 0 g else 0
    by_cases hlt : k < N
    · have e1 := spec_l02Single (f := k) (by omega)
      have hd0 : dN nx lp 0 k = if sm k then 0 else -1 := rfl
      cases hk0 : sm k
      · rw [hk0] at e1 hd0
        have hst1 := fnL_set (N := N) (k := k) (F := fun g => if g < k then dN nx lp 0 g else 0) (v := -1)
        have hcg := fnL_congr (N := N) (F := fun g => if g = k then -1 else if g < k then dN nx lp 0 g else 0) (G := fun g => if g < k + 1 then dN nx lp 0 g else 0) fun g _ => by
          by_cases h1 : g = k
          · subst h1; simp [hd0]
          · by_cases h2 : g < k
            · simp [h1, h2, show g < k + 1 by omega]
            · simp [h1, h2, show ¬ g < k + 1 by omega]
        rw [hcg] at hst1
        repeat (first | refine awp_seq ?_ | refine then_n ?_ | refine then_r ?_ | refine then_x ?_ | refine block_n ?_ | refine block_r ?_ | refine block_x ?_ | refine u_y ?_ | refine loop_r ?_ | refine loop_x ?_ | refine awp_region ?_ | refine awpL_nil ?_ | refine awpQL_nil ?_ | refine awp_block ?_ | refine awp_skip ?_ | refine awp_exit ?_ | refine awp_label ?_ | refine u_dT ?_ | refine u_d ?_ | ((first | apply c_l | apply c_q | apply c_lr | apply c_qr); (iterate 2 exact rfl); (focus (first | exact e1)); (iterate 2 exact rfl)) | (apply v_c; (iterate 4 exact rfl); (focus (first | exact e1)); (iterate 2 exact rfl)) | refine u_l ?_ | refine u_o ?_ | refine u_q ?_ | refine u_lr ?_ | refine u_qr ?_ | refine u_ls ?_ | refine u_qs ?_ | refine u_t ?_ | refine u_f ?_ | refine v_s ?_ | refine v_o ?_ | refine v_on ?_ | refine v_og ?_ | refine v_q ?_ | refine v_sr ?_ | refine v_k ?_ | refine m_nil ?_)
        refine loop_n (k + 1) (by omega) ?_ ?_ (by omega)
        · ((repeat (first | exact trivial | (refine ⟨?_, ?_⟩; (focus (first | rfl | (simp [lk, argsS, args0]; done) | (simp [lk, argsS, args0]; omega)))))))
        · rw [← hst1]; rfl
      · rw [hk0] at e1 hd0
        have hcg := fnL_congr (N := N) (F := fun g => if g < k then dN nx lp 0 g else 0) (G := fun g => if g < k + 1 then dN nx lp 0 g else 0) fun g _ => by
          by_cases h1 : g = k
          · subst h1; simp [hd0]
          · by_cases h2 : g < k
            · simp [h2, show g < k + 1 by omega]
            · simp [h2, show ¬ g < k + 1 by omega]
        repeat (first | refine awp_seq ?_ | refine then_n ?_ | refine then_r ?_ | refine then_x ?_ | refine block_n ?_ | refine block_r ?_ | refine block_x ?_ | refine u_y ?_ | refine loop_r ?_ | refine loop_x ?_ | refine awp_region ?_ | refine awpL_nil ?_ | refine awpQL_nil ?_ | refine awp_block ?_ | refine awp_skip ?_ | refine awp_exit ?_ | refine awp_label ?_ | refine u_dT ?_ | refine u_d ?_ | ((first | apply c_l | apply c_q | apply c_lr | apply c_qr); (iterate 2 exact rfl); (focus (first | exact e1)); (iterate 2 exact rfl)) | (apply v_c; (iterate 4 exact rfl); (focus (first | exact e1)); (iterate 2 exact rfl)) | refine u_l ?_ | refine u_o ?_ | refine u_q ?_ | refine u_lr ?_ | refine u_qr ?_ | refine u_ls ?_ | refine u_qs ?_ | refine u_t ?_ | refine u_f ?_ | refine v_s ?_ | refine v_o ?_ | refine v_on ?_ | refine v_og ?_ | refine v_q ?_ | refine v_sr ?_ | refine v_k ?_ | refine m_nil ?_)
        refine loop_n (k + 1) (by omega) ?_ ?_ (by omega)
        · ((repeat (first | exact trivial | (refine ⟨?_, ?_⟩; (focus (first | rfl | (simp [lk, argsS, args0]; done) | (simp [lk, argsS, args0]; omega)))))))
        · rw [hcg]
    · have : k = N := by omega
      subst this
      have hcg := fnL_congr (N := k) (F := fun g => if g < k then dN nx lp 0 g else 0) (G := fun g => dN nx lp 0 g) fun g hg => if_pos hg
      rw [hcg]
      have hl0 := hlen fun g => dN nx lp 0 g
      repeat (first | refine awp_seq ?_ | refine then_n ?_ | refine then_r ?_ | refine then_x ?_ | refine block_n ?_ | refine block_r ?_ | refine block_x ?_ | refine u_y ?_ | refine loop_r ?_ | refine loop_x ?_ | refine awp_region ?_ | refine awpL_nil ?_ | refine awpQL_nil ?_ | refine awp_block ?_ | refine awp_skip ?_ | refine awp_exit ?_ | refine awp_label ?_ | refine u_dT ?_ | refine u_d ?_ | refine u_l ?_ | refine u_o ?_ | refine u_q ?_ | refine u_lr ?_ | refine u_qr ?_ | refine u_ls ?_ | refine u_qs ?_ | refine u_t ?_ | refine u_f ?_ | refine v_s ?_ | refine v_o ?_ | refine v_on ?_ | refine v_og ?_ | refine v_q ?_ | refine v_sr ?_ | refine v_k ?_ | refine m_nil ?_)
      refine awp_loop (fun d : Nat => d ≤ Z) (fun d => [(0, .d (.ptr (.agg [.int .i64 s, rows nx, ints lp]))), (3, .own 17), (5, .d (.int .i64 ((d + 1 : Nat) : Int)))]) (fun d => [(17, .arr 2 1 ((fnL k fun g => dN nx lp d g).map (.int .i64)))]) (fun d => Z + 1 - d) 0 (by omega) ?_ rfl ?_
      · ((repeat (first | exact trivial | (refine ⟨?_, ?_⟩; (focus (first | rfl | (simp [lk, argsS, args0]; done) | (simp [lk, argsS, args0]; omega)))))))
      · intro d hd
        have hl := hlen fun g => dN nx lp d g
        repeat (first | refine v_w (t := 32) ?_ | refine awp_seq ?_ | refine then_n ?_ | refine then_r ?_ | refine then_x ?_ | refine block_n ?_ | refine block_r ?_ | refine block_x ?_ | refine u_y ?_ | refine loop_r ?_ | refine loop_x ?_ | refine awp_region ?_ | refine awpL_nil ?_ | refine awpQL_nil ?_ | refine awp_block ?_ | refine awp_skip ?_ | refine awp_exit ?_ | refine awp_label ?_ | refine u_dT ?_ | refine u_d ?_ | refine u_w (t := 32) ?_ | refine u_l ?_ | refine u_o ?_ | refine u_q ?_ | refine u_lr ?_ | refine u_qr ?_ | refine u_ls ?_ | refine u_qs ?_ | refine u_t ?_ | refine u_f ?_ | refine v_s ?_ | refine v_o ?_ | refine v_on ?_ | refine v_og ?_ | refine v_q ?_ | refine v_sr ?_ | refine v_k ?_ | refine m_nil ?_)
        refine awp_loop (fun j : Nat => j ≤ k) (fun j => [(0, .d (.ptr (.agg [.int .i64 s, rows nx, ints lp]))), (3, .own 17), (5, .d (.int .i64 ((d + 1 : Nat) : Int))), (6, .own 32), (7, .d (.int .i64 j))]) (fun j => [(32, .arr 3 1 ((fnd nx lp d j).map fun g : Nat => D.int .i64 g)), (17, .arr 2 1 ((fnL k fun g => dN nx lp d g).map (.int .i64)))]) (fun j => k - j) 0 (by omega) ?_ rfl ?_
        · ((repeat (first | exact trivial | (refine ⟨?_, ?_⟩; (focus (first | rfl | (simp [lk, argsS, args0]; done) | (simp [lk, argsS, args0]; omega)))))))
        · intro j hj
          have hfl := fnd_len (nx := nx) (lp := lp) (d := d) (k := j)
          by_cases hjl : j < k
          · have hel := fnL_el (F := fun g => dN nx lp d g) hjl
            have hfs := fnd_succ (nx := nx) (lp := lp) (d := d) (k := j)
            repeat (first | refine awp_seq ?_ | refine then_n ?_ | refine then_r ?_ | refine then_x ?_ | refine block_n ?_ | refine block_r ?_ | refine block_x ?_ | refine u_y ?_ | refine loop_r ?_ | refine loop_x ?_ | refine awp_region ?_ | refine awpL_nil ?_ | refine awpQL_nil ?_ | refine awp_block ?_ | refine awp_skip ?_ | refine awp_exit ?_ | refine awp_label ?_ | refine u_dT ?_ | refine u_d ?_ | refine u_l ?_ | refine u_o ?_ | refine u_q ?_ | refine u_lr ?_ | refine u_qr ?_ | refine u_ls ?_ | refine u_qs ?_ | refine u_t ?_ | refine u_f ?_ | refine v_s ?_ | refine v_o ?_ | refine v_on ?_ | refine v_og ?_ | refine v_q ?_ | refine v_sr ?_ | refine v_k ?_ | refine m_nil ?_)
            refine awp_loop (fun x : Nat => x ≤ nx.length ∧ (dN nx lp d j < 0 ∨ x = 0) ∧ ∀ x', x' < x → ¬ good sm (bel nx lp) nx.length 4 d j x' = true) (fun x => [(0, .d (.ptr (.agg [.int .i64 s, rows nx, ints lp]))), (3, .own 17), (5, .d (.int .i64 ((d + 1 : Nat) : Int))), (6, .own 32), (7, .d (.int .i64 j)), (8, .d (.int .i64 x))]) (fun x => [(32, .arr 3 1 ((fnd nx lp d j).map fun g : Nat => D.int .i64 g)), (17, .arr 2 1 ((fnL k fun g => dN nx lp d g).map (.int .i64)))]) (fun x => nx.length - x) 0 (by exact ⟨by omega, .inr rfl, fun x h => by omega⟩) ?_ rfl ?_
            · ((repeat (first | exact trivial | (refine ⟨?_, ?_⟩; (focus (first | rfl | (simp [lk, argsS, args0]; done) | (simp [lk, argsS, args0]; omega)))))))
            · rintro x ⟨hx, hz, hg⟩
              by_cases hxl : x < nx.length
              · by_cases hneg : dN nx lp d j < 0
                · have e2 := spec_l08Worst (G := fun g => dN nx lp d g) v (f := j) (x := x) (by omega) hxl
                  have hwi := wors_iff (nx := nx) (lp := lp) (d := d) (f := j) (x := x)
                  rw [hNN] at e2
                  by_cases hgd : good sm (bel nx lp) nx.length 4 d j x = true
                  · have hw := hwi.2 hgd
                    rw [if_pos ⟨hneg, (new_iff hneg).2 ⟨x, hxl, hgd⟩⟩] at hfs
                    repeat (first | refine awp_seq ?_ | refine then_n ?_ | refine then_r ?_ | refine then_x ?_ | refine block_n ?_ | refine block_r ?_ | refine block_x ?_ | refine u_y ?_ | refine loop_r ?_ | refine loop_x ?_ | refine awp_region ?_ | refine awpL_nil ?_ | refine awpQL_nil ?_ | refine awp_block ?_ | refine awp_skip ?_ | refine awp_exit ?_ | refine awp_label ?_ | refine u_dT ?_ | refine u_d ?_ | refine u_l ?_ | refine u_o ?_ | refine u_q ?_ | refine u_lr ?_ | refine u_qr ?_ | refine u_ls ?_ | refine u_qs ?_ | refine u_t ?_ | refine u_f ?_ | refine v_s ?_ | refine v_o ?_ | refine v_on ?_ | refine v_og ?_ | refine v_q ?_ | refine v_sr ?_ | refine v_k ?_ | refine m_nil ?_)
                    refine u_sl ?_ ?_
                    rotate_left
                    · intro hb; exact absurd hb (by simp; omega)
                    intro _
                    repeat (first | refine awp_seq ?_ | refine then_n ?_ | refine then_r ?_ | refine then_x ?_ | refine block_n ?_ | refine block_r ?_ | refine block_x ?_ | refine u_y ?_ | refine loop_r ?_ | refine loop_x ?_ | refine awp_region ?_ | refine awpL_nil ?_ | refine awpQL_nil ?_ | refine awp_block ?_ | refine awp_skip ?_ | refine awp_exit ?_ | refine awp_label ?_ | refine u_dT ?_ | refine u_d ?_ | ((first | apply c_l | apply c_q | apply c_lr | apply c_qr); (iterate 2 exact rfl); (focus (first | exact e2)); (iterate 2 exact rfl)) | (apply v_c; (iterate 4 exact rfl); (focus (first | exact e2)); (iterate 2 exact rfl)) | refine u_l ?_ | refine u_o ?_ | refine u_q ?_ | refine u_lr ?_ | refine u_qr ?_ | refine u_ls ?_ | refine u_qs ?_ | refine u_t ?_ | refine u_f ?_ | refine v_s ?_ | refine v_o ?_ | refine v_on ?_ | refine v_og ?_ | refine v_q ?_ | refine v_sr ?_ | refine v_k ?_ | refine m_nil ?_)
                    refine loop_n (j + 1) (by omega) ?_ ?_ (by omega)
                    · ((repeat (first | exact trivial | (refine ⟨?_, ?_⟩; (focus (first | rfl | (simp [lk, argsS, args0]; done) | (simp [lk, argsS, args0]; omega)))))))
                    · rw [hfs]; simp [killH, keepH, memB, Chunk.mapc]
                  · have hw : ¬ 0 ≤ wors (fun y => dN nx lp d (bel nx lp j x y)) 4 := fun h => hgd (hwi.1 h)
                    repeat (first | refine awp_seq ?_ | refine then_n ?_ | refine then_r ?_ | refine then_x ?_ | refine block_n ?_ | refine block_r ?_ | refine block_x ?_ | refine u_y ?_ | refine loop_r ?_ | refine loop_x ?_ | refine awp_region ?_ | refine awpL_nil ?_ | refine awpQL_nil ?_ | refine awp_block ?_ | refine awp_skip ?_ | refine awp_exit ?_ | refine awp_label ?_ | refine u_dT ?_ | refine u_d ?_ | refine u_l ?_ | refine u_o ?_ | refine u_q ?_ | refine u_lr ?_ | refine u_qr ?_ | refine u_ls ?_ | refine u_qs ?_ | refine u_t ?_ | refine u_f ?_ | refine v_s ?_ | refine v_o ?_ | refine v_on ?_ | refine v_og ?_ | refine v_q ?_ | refine v_sr ?_ | refine v_k ?_ | refine m_nil ?_)
                    refine u_sl ?_ ?_
                    rotate_left
                    · intro hb; exact absurd hb (by simp; omega)
                    intro _
                    repeat (first | refine awp_seq ?_ | refine then_n ?_ | refine then_r ?_ | refine then_x ?_ | refine block_n ?_ | refine block_r ?_ | refine block_x ?_ | refine u_y ?_ | refine loop_r ?_ | refine loop_x ?_ | refine awp_region ?_ | refine awpL_nil ?_ | refine awpQL_nil ?_ | refine awp_block ?_ | refine awp_skip ?_ | refine awp_exit ?_ | refine awp_label ?_ | refine u_dT ?_ | refine u_d ?_ | ((first | apply c_l | apply c_q | apply c_lr | apply c_qr); (iterate 2 exact rfl); (focus (first | exact e2)); (iterate 2 exact rfl)) | (apply v_c; (iterate 4 exact rfl); (focus (first | exact e2)); (iterate 2 exact rfl)) | refine u_l ?_ | refine u_o ?_ | refine u_q ?_ | refine u_lr ?_ | refine u_qr ?_ | refine u_ls ?_ | refine u_qs ?_ | refine u_t ?_ | refine u_f ?_ | refine v_s ?_ | refine v_o ?_ | refine v_on ?_ | refine v_og ?_ | refine v_q ?_ | refine v_sr ?_ | refine v_k ?_ | refine m_nil ?_)
                    refine loop_n (x + 1) ⟨by omega, .inl hneg, fun x' hx' => ?_⟩ ?_ rfl (by omega)
                    · by_cases e : x' = x
                      · subst e; exact hgd
                      · exact hg x' (by omega)
                    · ((repeat (first | exact trivial | (refine ⟨?_, ?_⟩; (focus (first | rfl | (simp [lk, argsS, args0]; done) | (simp [lk, argsS, args0]; omega)))))))
                · rw [if_neg (by omega)] at hfs
                  repeat (first | refine awp_seq ?_ | refine then_n ?_ | refine then_r ?_ | refine then_x ?_ | refine block_n ?_ | refine block_r ?_ | refine block_x ?_ | refine u_y ?_ | refine loop_r ?_ | refine loop_x ?_ | refine awp_region ?_ | refine awpL_nil ?_ | refine awpQL_nil ?_ | refine awp_block ?_ | refine awp_skip ?_ | refine awp_exit ?_ | refine awp_label ?_ | refine u_dT ?_ | refine u_d ?_ | refine u_l ?_ | refine u_o ?_ | refine u_q ?_ | refine u_lr ?_ | refine u_qr ?_ | refine u_ls ?_ | refine u_qs ?_ | refine u_t ?_ | refine u_f ?_ | refine v_s ?_ | refine v_o ?_ | refine v_on ?_ | refine v_og ?_ | refine v_q ?_ | refine v_sr ?_ | refine v_k ?_ | refine m_nil ?_)
                  refine u_sl ?_ ?_
                  rotate_left
                  · intro hb; exact absurd hb (by simp; omega)
                  intro _
                  repeat (first | refine awp_seq ?_ | refine then_n ?_ | refine then_r ?_ | refine then_x ?_ | refine block_n ?_ | refine block_r ?_ | refine block_x ?_ | refine u_y ?_ | refine loop_r ?_ | refine loop_x ?_ | refine awp_region ?_ | refine awpL_nil ?_ | refine awpQL_nil ?_ | refine awp_block ?_ | refine awp_skip ?_ | refine awp_exit ?_ | refine awp_label ?_ | refine u_dT ?_ | refine u_d ?_ | refine u_l ?_ | refine u_o ?_ | refine u_q ?_ | refine u_lr ?_ | refine u_qr ?_ | refine u_ls ?_ | refine u_qs ?_ | refine u_t ?_ | refine u_f ?_ | refine v_s ?_ | refine v_o ?_ | refine v_on ?_ | refine v_og ?_ | refine v_q ?_ | refine v_sr ?_ | refine v_k ?_ | refine m_nil ?_)
                  refine loop_n (j + 1) (by omega) ?_ ?_ (by omega)
                  · ((repeat (first | exact trivial | (refine ⟨?_, ?_⟩; (focus (first | rfl | (simp [lk, argsS, args0]; done) | (simp [lk, argsS, args0]; omega)))))))
                  · rw [hfs]; simp
              · have : x = nx.length := by omega
                subst this
                have hno : ¬ (dN nx lp d j < 0 ∧ 0 ≤ dN nx lp (d + 1) j) := fun ⟨h1, h2⟩ => by
                  obtain ⟨x', h3, h4⟩ := (new_iff h1).1 h2
                  exact hg x' h3 h4
                rw [if_neg hno] at hfs
                repeat (first | refine awp_seq ?_ | refine then_n ?_ | refine then_r ?_ | refine then_x ?_ | refine block_n ?_ | refine block_r ?_ | refine block_x ?_ | refine u_y ?_ | refine loop_r ?_ | refine loop_x ?_ | refine awp_region ?_ | refine awpL_nil ?_ | refine awpQL_nil ?_ | refine awp_block ?_ | refine awp_skip ?_ | refine awp_exit ?_ | refine awp_label ?_ | refine u_dT ?_ | refine u_d ?_ | refine u_l ?_ | refine u_o ?_ | refine u_q ?_ | refine u_lr ?_ | refine u_qr ?_ | refine u_ls ?_ | refine u_qs ?_ | refine u_t ?_ | refine u_f ?_ | refine v_s ?_ | refine v_o ?_ | refine v_on ?_ | refine v_og ?_ | refine v_q ?_ | refine v_sr ?_ | refine v_k ?_ | refine m_nil ?_)
                refine u_sl ?_ ?_
                · intro hb; exact absurd hb (by simp)
                intro _
                repeat (first | refine awp_seq ?_ | refine then_n ?_ | refine then_r ?_ | refine then_x ?_ | refine block_n ?_ | refine block_r ?_ | refine block_x ?_ | refine u_y ?_ | refine loop_r ?_ | refine loop_x ?_ | refine awp_region ?_ | refine awpL_nil ?_ | refine awpQL_nil ?_ | refine awp_block ?_ | refine awp_skip ?_ | refine awp_exit ?_ | refine awp_label ?_ | refine u_dT ?_ | refine u_d ?_ | refine u_l ?_ | refine u_o ?_ | refine u_q ?_ | refine u_lr ?_ | refine u_qr ?_ | refine u_ls ?_ | refine u_qs ?_ | refine u_t ?_ | refine u_f ?_ | refine v_s ?_ | refine v_o ?_ | refine v_on ?_ | refine v_og ?_ | refine v_q ?_ | refine v_sr ?_ | refine v_k ?_ | refine m_nil ?_)
                refine loop_n (j + 1) (by omega) ?_ ?_ (by omega)
                · ((repeat (first | exact trivial | (refine ⟨?_, ?_⟩; (focus (first | rfl | (simp [lk, argsS, args0]; done) | (simp [lk, argsS, args0]; omega)))))))
                · rw [hfs]; simp
          · have hjk : j = k := by omega
            subst hjk
            have hmf : ∀ g, g ∈ fnd nx lp d j ↔ g < j ∧ dN nx lp d g < 0 ∧ 0 ≤ dN nx lp (d + 1) g := fun g => mem_fnd
            have hfe : fnd nx lp d j = [] ↔ still nx lp (List.range j) d := by
              constructor
              · intro he f hf
                refine old_val fun h => ?_
                have := (hmf f).2 ⟨List.mem_range.1 hf, h⟩
                rw [he] at this
                cases this
              · intro hs'
                refine List.eq_nil_iff_forall_not_mem.2 fun g hg => ?_
                obtain ⟨h1, h2, h3⟩ := (hmf g).1 hg
                have := hs' g (List.mem_range.2 h1)
                omega
            generalize fnd nx lp d j = fo at *
            have hfm : (fo.map fun g : Nat => D.int .i64 g).length = fo.length := by simp
            have hf0 : (fnL j fun g => dN nx lp d g) = fnL j fun g => if g ∈ fo.take 0 then ((d + 1 : Nat) : Int) else dN nx lp d g := fnL_congr fun g _ => by simp
            rw [hf0]
            repeat (first | refine awp_seq ?_ | refine then_n ?_ | refine then_r ?_ | refine then_x ?_ | refine block_n ?_ | refine block_r ?_ | refine block_x ?_ | refine u_y ?_ | refine loop_r ?_ | refine loop_x ?_ | refine awp_region ?_ | refine awpL_nil ?_ | refine awpQL_nil ?_ | refine awp_block ?_ | refine awp_skip ?_ | refine awp_exit ?_ | refine awp_label ?_ | refine u_dT ?_ | refine u_d ?_ | refine u_l ?_ | refine u_o ?_ | refine u_q ?_ | refine u_lr ?_ | refine u_qr ?_ | refine u_ls ?_ | refine u_qs ?_ | refine u_t ?_ | refine u_f ?_ | refine v_s ?_ | refine v_o ?_ | refine v_on ?_ | refine v_og ?_ | refine v_q ?_ | refine v_sr ?_ | refine v_k ?_ | refine m_nil ?_)
            refine awp_loop (fun i : Nat => i ≤ fo.length) (fun i => [(0, .d (.ptr (.agg [.int .i64 s, rows nx, ints lp]))), (3, .own 17), (5, .d (.int .i64 ((d + 1 : Nat) : Int))), (6, .own 32), (9, .d (.int .i64 i))]) (fun i => [(32, .arr 3 1 (fo.map fun g : Nat => D.int .i64 g)), (17, .arr 2 1 ((fnL j fun g => if g ∈ fo.take i then ((d + 1 : Nat) : Int) else dN nx lp d g).map (.int .i64)))]) (fun i => fo.length - i) 0 (by omega) ?_ rfl ?_
            · ((repeat (first | exact trivial | (refine ⟨?_, ?_⟩; (focus (first | rfl | (simp [lk, argsS, args0]; done) | (simp [lk, argsS, args0]; omega)))))))
            · intro i hi
              have hl3 := hlen fun g => if g ∈ fo.take i then ((d + 1 : Nat) : Int) else dN nx lp d g
              by_cases hil : i < fo.length
              · have hfi : (fo.map fun g : Nat => D.int .i64 g)[(i : Int).toNat]? = some (.int .i64 ((fo[i] : Nat) : Int)) := by simp [hil]
                have hfm := (hmf fo[i]).1 (List.getElem_mem hil)
                have hst1 := fnL_set (N := j) (k := fo[i]) (F := fun g => if g ∈ fo.take i then ((d + 1 : Nat) : Int) else dN nx lp d g) (v := ((d + 1 : Nat) : Int))
                have hcg := fnL_congr (N := j) (F := fun g => if g = fo[i] then ((d + 1 : Nat) : Int) else if g ∈ fo.take i then ((d + 1 : Nat) : Int) else dN nx lp d g) (G := fun g => if g ∈ fo.take (i + 1) then ((d + 1 : Nat) : Int) else dN nx lp d g) fun g _ => by
                  have hm : g ∈ fo.take (i + 1) ↔ g ∈ fo.take i ∨ g = fo[i] := by rw [List.take_succ_eq_append_getElem hil, List.mem_append, List.mem_singleton]
                  by_cases h1 : g = fo[i]
                  · rw [if_pos h1, if_pos (hm.2 (.inr h1))]
                  · rw [if_neg h1]
                    by_cases h2 : g ∈ fo.take i
                    · rw [if_pos h2, if_pos (hm.2 (.inl h2))]
                    · rw [if_neg h2, if_neg fun h => (hm.1 h).elim h2 h1]
                rw [hcg] at hst1
                repeat (first | refine awp_seq ?_ | refine then_n ?_ | refine then_r ?_ | refine then_x ?_ | refine block_n ?_ | refine block_r ?_ | refine block_x ?_ | refine u_y ?_ | refine loop_r ?_ | refine loop_x ?_ | refine awp_region ?_ | refine awpL_nil ?_ | refine awpQL_nil ?_ | refine awp_block ?_ | refine awp_skip ?_ | refine awp_exit ?_ | refine awp_label ?_ | refine u_dT ?_ | refine u_d ?_ | refine u_l ?_ | refine u_o ?_ | refine u_q ?_ | refine u_lr ?_ | refine u_qr ?_ | refine u_ls ?_ | refine u_qs ?_ | refine u_t ?_ | refine u_f ?_ | refine v_s ?_ | refine v_o ?_ | refine v_on ?_ | refine v_og ?_ | refine v_q ?_ | refine v_sr ?_ | refine v_k ?_ | refine m_nil ?_)
                refine loop_n (i + 1) (by omega) ?_ ?_ (by omega)
                · ((repeat (first | exact trivial | (refine ⟨?_, ?_⟩; (focus (first | rfl | (simp [lk, argsS, args0]; done) | (simp [lk, argsS, args0]; omega)))))))
                · rw [← hst1]; rfl
              · have hii : i = fo.length := by omega
                subst hii
                rw [List.take_length] at *
                have hcg := fnL_congr (N := j) (F := fun g => if g ∈ fo then ((d + 1 : Nat) : Int) else dN nx lp d g) (G := fun g => dN nx lp (d + 1) g) fun g hg => by
                  by_cases h1 : g ∈ fo
                  · have := (hmf g).1 h1
                    rw [if_pos h1, new_val this.2.1 this.2.2]
                  · rw [if_neg h1, old_val fun h => h1 ((hmf g).2 ⟨hg, h⟩)]
                rw [hcg]
                by_cases hf : fo = []
                · have hdD : d = Z := by
                    by_cases h : d < Z
                    · exact absurd (hfe.1 hf) (hmin d h)
                    · omega
                  subst hdD
                  have hcg2 := fnL_congr (N := j) (F := fun g => dN nx lp (d + 1) g) (G := dN nx lp d) fun g hg => hfe.1 hf g (List.mem_range.2 hg)
                  rw [hcg2]
                  subst hf
                  repeat (first | refine awp_seq ?_ | refine then_n ?_ | refine then_r ?_ | refine then_x ?_ | refine block_n ?_ | refine block_r ?_ | refine block_x ?_ | refine u_y ?_ | refine loop_r ?_ | refine loop_x ?_ | refine awp_region ?_ | refine awpL_nil ?_ | refine awpQL_nil ?_ | refine awp_block ?_ | refine awp_skip ?_ | refine awp_exit ?_ | refine awp_label ?_ | refine u_dT ?_ | refine u_d ?_ | refine u_l ?_ | refine u_o ?_ | refine u_q ?_ | refine u_lr ?_ | refine u_qr ?_ | refine u_ls ?_ | refine u_qs ?_ | refine u_t ?_ | refine u_f ?_ | refine v_s ?_ | refine v_o ?_ | refine v_on ?_ | refine v_og ?_ | refine v_q ?_ | refine v_sr ?_ | refine v_k ?_ | refine m_nil ?_)
                  (refine awp_ret ?_; (repeat (first | refine then_r ?_ | refine block_r ?_ | refine loop_r ?_)); apply ret_ok (.inr rfl); (focus exact rfl))
                  rfl
                · have hdD : d < Z := by
                    rcases Nat.lt_or_ge d Z with h | h
                    · exact h
                    · have : d = Z := by omega
                      subst this
                      exact absurd (hfe.2 hst) hf
                  have hpos : 0 < fo.length := List.length_pos_iff.2 hf
                  refine awp_freeze 32 rfl rfl ?_
                  repeat (first | refine awp_seq ?_ | refine then_n ?_ | refine then_r ?_ | refine then_x ?_ | refine block_n ?_ | refine block_r ?_ | refine block_x ?_ | refine u_y ?_ | refine loop_r ?_ | refine loop_x ?_ | refine awp_region ?_ | refine awpL_nil ?_ | refine awpQL_nil ?_ | refine awp_block ?_ | refine awp_skip ?_ | refine awp_exit ?_ | refine awp_label ?_ | refine u_dT ?_ | refine u_d ?_ | refine u_l ?_ | refine u_o ?_ | refine u_q ?_ | refine u_lr ?_ | refine u_qr ?_ | refine u_ls ?_ | refine u_qs ?_ | refine u_t ?_ | refine u_f ?_ | refine v_s ?_ | refine v_o ?_ | refine v_on ?_ | refine v_og ?_ | refine v_q ?_ | refine v_sr ?_ | refine v_k ?_ | refine m_nil ?_)
                  refine loop_n (d + 1) (by omega) ?_ rfl (by omega)
                  ((repeat (first | exact trivial | (refine ⟨?_, ?_⟩; (focus (first | rfl | (simp [lk, argsS, args0]; done) | (simp [lk, argsS, args0]; omega)))))))

theorem spec_l08Letter {s : Int} {nx : List (List Int)} {lp : List Int} {G : Nat → Int} (v : LV s nx lp) {f : Nat} (hf : f < 2 ^ s.toNat) (hG : -1 ≤ G f ∧ G f ≤ 9223372036854775807) :
    AC Try.prog 53 [.ptr (.agg [.int .i64 s, rows nx, ints lp]), ints (fnL (2 ^ s.toNat) G), .int .i64 f] (.int .i64 (fstL (fun x => decide (wors (fun y => G (bel nx lp f x y)) 4 = G f - 1)) nx.length 0)) := by
  have hs := v.s1
  have hn := v.n1
  have hp := pow_le (m := s.toNat) (by omega)
  have hle : (List.map ints nx).length = nx.length := by simp
  have hel := fnL_el (F := G) hf
  have hGb := hG.2
  · refine ac_intro tabIs _ Try.func53 rfl rfl Try.ntmps53 rfl rfl fun w0 ok0 => ?_
    repeat (first | refine awp_seq ?_ | refine then_n ?_ | refine then_r ?_ | refine then_x ?_ | refine block_n ?_ | refine block_r ?_ | refine block_x ?_ | refine u_y ?_ | refine loop_r ?_ | refine loop_x ?_ | refine awp_region ?_ | refine awpL_nil ?_ | refine awpQL_nil ?_ | refine awp_block ?_ | refine awp_skip ?_ | refine awp_exit ?_ | refine awp_label ?_ | refine u_dT ?_ | refine u_d ?_ | refine u_l ?_ | refine u_o ?_ | refine u_q ?_ | refine u_lr ?_ | refine u_qr ?_ | refine u_ls ?_ | refine u_qs ?_ | refine u_t ?_ | refine u_f ?_ | refine v_s ?_ | refine v_o ?_ | refine v_on ?_ | refine v_og ?_ | refine v_q ?_ | refine v_sr ?_ | refine v_k ?_ | refine m_nil ?_)
    refine awp_loop (fun x : Nat => x ≤ nx.length ∧ ∀ z, z < x → decide (wors (fun y => G (bel nx lp f z y)) 4 = G f - 1) = false) (fun x => [(0, .d (.ptr (.agg [.int .i64 s, rows nx, ints lp]))), (1, .d (ints (fnL (2 ^ s.toNat) G))), (2, .d (.int .i64 f)), (7, .d (.int .i64 x))]) (fun _ => []) (fun x => nx.length - x) 0 (by exact ⟨by omega, fun y h => by omega⟩) ?_ rfl ?_
    · ((repeat (first | exact trivial | (refine ⟨?_, ?_⟩; (focus (first | rfl | (simp [lk, argsS, args0]; done) | (simp [lk, argsS, args0]; omega)))))))
    · rintro x ⟨hx, hz⟩
      by_cases hxl : x < nx.length
      · have e1 := spec_l08Worst (G := G) v hf hxl
        cases hd : decide (wors (fun y => G (bel nx lp f x y)) 4 = G f - 1)
        · repeat (first | refine awp_seq ?_ | refine then_n ?_ | refine then_r ?_ | refine then_x ?_ | refine block_n ?_ | refine block_r ?_ | refine block_x ?_ | refine u_y ?_ | refine loop_r ?_ | refine loop_x ?_ | refine awp_region ?_ | refine awpL_nil ?_ | refine awpQL_nil ?_ | refine awp_block ?_ | refine awp_skip ?_ | refine awp_exit ?_ | refine awp_label ?_ | refine u_dT ?_ | refine u_d ?_ | ((first | apply c_l | apply c_q | apply c_lr | apply c_qr); (iterate 2 exact rfl); (focus (first | exact e1)); (iterate 2 exact rfl)) | (apply v_c; (iterate 4 exact rfl); (focus (first | exact e1)); (iterate 2 exact rfl)) | refine u_l ?_ | refine u_o ?_ | refine u_q ?_ | refine u_lr ?_ | refine u_qr ?_ | refine u_ls ?_ | refine u_qs ?_ | refine u_t ?_ | refine u_f ?_ | refine v_s ?_ | refine v_o ?_ | refine v_on ?_ | refine v_og ?_ | refine v_q ?_ | refine v_sr ?_ | refine v_k ?_ | refine m_nil ?_)
          refine loop_n (x + 1) ⟨by omega, fun z hzz => ?_⟩ ?_ rfl (by omega)
          · by_cases e : z = x
            · subst e; exact hd
            · exact hz z (by omega)
          · ((repeat (first | exact trivial | (refine ⟨?_, ?_⟩; (focus (first | rfl | (simp [lk, argsS, args0]; done) | (simp [lk, argsS, args0]; omega)))))))
        · repeat (first | refine awp_seq ?_ | refine then_n ?_ | refine then_r ?_ | refine then_x ?_ | refine block_n ?_ | refine block_r ?_ | refine block_x ?_ | refine u_y ?_ | refine loop_r ?_ | refine loop_x ?_ | refine awp_region ?_ | refine awpL_nil ?_ | refine awpQL_nil ?_ | refine awp_block ?_ | refine awp_skip ?_ | refine awp_exit ?_ | refine awp_label ?_ | refine u_dT ?_ | refine u_d ?_ | ((first | apply c_l | apply c_q | apply c_lr | apply c_qr); (iterate 2 exact rfl); (focus (first | exact e1)); (iterate 2 exact rfl)) | (apply v_c; (iterate 4 exact rfl); (focus (first | exact e1)); (iterate 2 exact rfl)) | refine u_l ?_ | refine u_o ?_ | refine u_q ?_ | refine u_lr ?_ | refine u_qr ?_ | refine u_ls ?_ | refine u_qs ?_ | refine u_t ?_ | refine u_f ?_ | refine v_s ?_ | refine v_o ?_ | refine v_on ?_ | refine v_og ?_ | refine v_q ?_ | refine v_sr ?_ | refine v_k ?_ | refine m_nil ?_)
          (refine awp_ret ?_; (repeat (first | refine then_r ?_ | refine block_r ?_ | refine loop_r ?_)); apply ret_ok (.inr rfl); (focus exact rfl))
          rw [fstL_some (x := x) hxl hd hz]
      · have : x = nx.length := by omega
        subst this
        repeat (first | refine awp_seq ?_ | refine then_n ?_ | refine then_r ?_ | refine then_x ?_ | refine block_n ?_ | refine block_r ?_ | refine block_x ?_ | refine u_y ?_ | refine loop_r ?_ | refine loop_x ?_ | refine awp_region ?_ | refine awpL_nil ?_ | refine awpQL_nil ?_ | refine awp_block ?_ | refine awp_skip ?_ | refine awp_exit ?_ | refine awp_label ?_ | refine u_dT ?_ | refine u_d ?_ | refine u_l ?_ | refine u_o ?_ | refine u_q ?_ | refine u_lr ?_ | refine u_qr ?_ | refine u_ls ?_ | refine u_qs ?_ | refine u_t ?_ | refine u_f ?_ | refine v_s ?_ | refine v_o ?_ | refine v_on ?_ | refine v_og ?_ | refine v_q ?_ | refine v_sr ?_ | refine v_k ?_ | refine m_nil ?_)
        (refine awp_ret ?_; (repeat (first | refine then_r ?_ | refine block_r ?_ | refine loop_r ?_)); apply ret_ok (.inr rfl); (focus exact rfl))
        rw [fstL_none hz]

end Go.Proofs.Ytkomkhigcdkpdaa
