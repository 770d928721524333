/- Which words of a suite kill which mutants: the table, in the program and in the reference. No condition. -/
import Derived.Test.YtkaffmojojnhhaaNg
import Derived.Test.YtkaffmojojnhhaaWf
namespace Go.Proofs.Ytkaffmojojnhhaa
open Go
attribute [local irreducible] awp awpL awpQL awpQ awpM pWalk Qt AC thenQ blockQ loopQ OpTo
set_option linter.unusedVariables false
set_option linter.unusedSimpArgs false
set_option maxHeartbeats 2000000
attribute [local irreducible] HC

/-! ### Tables of truth values -/

def rowB (M : Nat) (F : Nat → Bool) : List D := (List.range M).map fun k => D.bool (F k)
def tabB (N M : Nat) (F : Nat → Nat → Bool) : List (List D) := (List.range N).map fun i => rowB M (F i)


@[simp] theorem rowB_length {M : Nat} {F : Nat → Bool} : (rowB M F).length = M := by simp [rowB]
@[simp] theorem tabB_length {N M : Nat} {F : Nat → Nat → Bool} : (tabB N M F).length = N := by simp [tabB]
theorem rowB_get {M k : Nat} {F : Nat → Bool} (h : k < M) : (rowB M F)[(k : Int).toNat]? = some (.bool (F k)) := by simp [rowB, h]
theorem tabB_get {N M i : Nat} {F : Nat → Nat → Bool} (h : i < N) : (tabB N M F)[(i : Int).toNat]? = some (rowB M (F i)) := by simp [tabB, h]
theorem rowB_set {M k : Nat} {F : Nat → Bool} {v : Bool} : (rowB M F).set k (.bool v) = rowB M fun g => if g = k then v else F g := by
  apply List.ext_getElem?
  intro i
  rw [List.getElem?_set]
  by_cases hi : k = i
  · subst hi
    by_cases hk : k < M <;> simp [rowB, hk]
  · have : ¬ i = k := fun e => hi e.symm
    by_cases hk : i < M <;> simp [rowB, hi, hk, this]
theorem tabB_set {N M i : Nat} {F : Nat → Nat → Bool} {G : Nat → Bool} : (tabB N M F).set i (rowB M G) = tabB N M fun j => if j = i then G else F j := by
  apply List.ext_getElem?
  intro j
  rw [List.getElem?_set]
  by_cases hi : i = j
  · subst hi
    by_cases hk : i < N <;> simp [tabB, hk]
  · have : ¬ j = i := fun e => hi e.symm
    by_cases hk : j < N <;> simp [tabB, hi, hk, this]
theorem tabB_snoc {N M : Nat} {F : Nat → Nat → Bool} : tabB (N + 1) M F = tabB N M F ++ [rowB M (F N)] := by simp [tabB, List.range_succ]
theorem rowB_congr {M : Nat} {F G : Nat → Bool} (h : ∀ k, k < M → F k = G k) : rowB M F = rowB M G := List.map_congr_left fun k hk => by rw [h k (List.mem_range.1 hk)]
theorem tabB_congr {N M : Nat} {F G : Nat → Nat → Bool} (h : ∀ i k, i < N → k < M → F i k = G i k) : tabB N M F = tabB N M G := List.map_congr_left fun i hi => rowB_congr fun k hk => h i k (List.mem_range.1 hi) hk
theorem rowB_rep {M : Nat} : List.replicate M (D.bool false) = rowB M fun _ => false := by
  unfold rowB
  exact (List.eq_replicate_iff.2 ⟨by simp, fun b hb => by simp at hb; exact hb.2.symm⟩).symm
/-- Does word i kill mutant k? -/
def kW (s o : Int) (nx ou ws : List (List Int)) (i k : Nat) : Bool := decide (0 ≤ failW nx ou (mutX s o nx ou k).1 (mutX s o nx ou k).2 0 0 0 (ws.getD i []))
/-- The table, filled as far as the mutants before k, and the words before j for k itself. -/
def tabF (s o : Int) (nx ou ws : List (List Int)) (k j : Nat) (i g : Nat) : Bool := if g < k ∨ (g = k ∧ i < j) then kW s o nx ou ws i g else false
theorem tabF_next {s o : Int} {nx ou ws : List (List Int)} {k j N M : Nat} : tabB N M (fun i g => if i = j then (fun g => if g = k then kW s o nx ou ws j k else tabF s o nx ou ws k j j g) g else tabF s o nx ou ws k j i g) = tabB N M (tabF s o nx ou ws k (j + 1)) := tabB_congr fun i g _ _ => by
  unfold tabF
  by_cases hi : i = j
  · subst hi
    by_cases hg : g = k
    · subst hg; simp
    · by_cases hlt : g < k
      · simp [hg, hlt]
      · simp [hg, hlt]
  · by_cases hg : g = k
    · subst hg
      by_cases hij : i < j
      · simp [hi, hij, show i < j + 1 by omega]
      · simp [hi, hij, show ¬ i < j + 1 by omega]
    · simp [hi, hg]
theorem tabF_row {s o : Int} {nx ou ws : List (List Int)} {k N M : Nat} : tabB N M (tabF s o nx ou ws k N) = tabB N M (tabF s o nx ou ws (k + 1) 0) := tabB_congr fun i g hi _ => by
  unfold tabF
  by_cases hg : g = k
  · subst hg; simp [hi]
  · by_cases hlt : g < k
    · simp [hlt, show g < k + 1 by omega]
    · simp [hlt, hg, show ¬ g < k + 1 by omega]
theorem tabF_all {s o : Int} {nx ou ws : List (List Int)} {N M : Nat} : tabB N M (tabF s o nx ou ws M 0) = tabB N M (kW s o nx ou ws) := tabB_congr fun i g _ hg => by
  unfold tabF
  simp [hg]
theorem tabF_none {s o : Int} {nx ou ws : List (List Int)} {N M : Nat} : tabB N M (tabF s o nx ou ws 0 0) = tabB N M (fun _ _ => false) := tabB_congr fun i g _ hg => by
  unfold tabF
  simp

theorem suOne {n : Nat} {w : List Int} (h : w.length ≤ 400 ∧ ∀ l ∈ w, 0 ≤ l ∧ l < n) : SuOk n [w] := ⟨by simp, fun v hv => by
  simp only [List.mem_singleton] at hv
  subst hv
  exact h⟩
theorem SuOk.one {n i : Nat} {ws : List (List Int)} (h : SuOk n ws) (hi : i < ws.length) : SuOk n [ws[i]] := ⟨by simp, fun w hw => by
  simp only [List.mem_singleton] at hw
  subst hw
  exact h.all _ (List.getElem_mem hi)⟩
theorem failS_one (nx ou nx' ou' : List (List Int)) (w : List Int) : decide ((failS nx ou nx' ou' 0 [w]).1 < 0) = decide (failW nx ou nx' ou' 0 0 0 w < 0) := by
  unfold failS
  split
  · rename_i h; simp [failS, h]
  · rename_i h; simp [h]

theorem impl_killsA {s o : Int} {nx ou ws : List (List Int)} (m : MV s o nx ou) (hwl : ws.length ≤ 2000) (hwa : ∀ w ∈ ws, w.length ≤ 400 ∧ ∀ l ∈ w, 0 ≤ l ∧ l < nx.length) :
    AC Try.prog 53 [mach s o nx ou, rows ws] (.lst ((tabB ws.length (mutN s o nx.length).toNat (kW s o nx ou ws)).map D.lst)) := by
  have hb := mutN_bounds m.s1 m.o1 m.n1.2
  have e1 := impl_mutants (ou := ou) m.s1 m.o1 m.n1.2
  have hle : (List.map ints ws).length = ws.length := by simp
  obtain ⟨M, hM⟩ : ∃ M : Nat, mutN s o nx.length = M := ⟨(mutN s o nx.length).toNat, by omega⟩
  have hMt : (mutN s o nx.length).toNat = M := by omega
  rw [hMt]
  have hmut : ∀ k : Nat, k < M → AC Try.prog 62 [mach s o nx ou, .int .i64 k] (mach s o (mutX s o nx ou k).1 (mutX s o nx ou k).2) := fun k hk => impl_mutant m (k := (k : Int)) (by omega)
  have hmv : ∀ k : Nat, k < M → MV s o (mutX s o nx ou k).1 (mutX s o nx ou k).2 ∧ (mutX s o nx ou k).1.length = nx.length := fun k hk => mv_mut m (k := (k : Int)) (by omega)
  rw [hM] at e1 hb
  have hz : List.replicate ((M : Nat) : Int).toNat (D.bool false) = rowB M fun _ => false := by rw [Int.toNat_natCast, rowB_rep]
  refine ac_intro tabIs _ Try.func53 rfl rfl Try.ntmps53 rfl rfl fun w0 ok0 => ?_
  repeat (first | refine v_w (t := 10) ?_ | refine awp_seq ?_ | refine then_n ?_ | refine then_r ?_ | refine then_x ?_ | refine block_n ?_ | refine block_r ?_ | refine block_x ?_ | refine u_y ?_ | refine loop_r ?_ | refine loop_x ?_ | refine awp_region ?_ | refine awpL_nil ?_ | refine awpQL_nil ?_ | refine awp_block ?_ | refine awp_skip ?_ | refine awp_exit ?_ | refine awp_label ?_ | refine u_dT ?_ | refine u_d ?_ | refine u_w (t := 10) ?_ | refine u_l ?_ | refine u_o ?_ | refine u_q ?_ | refine u_lr ?_ | refine u_qr ?_ | refine u_ls ?_ | refine u_qs ?_ | refine u_t ?_ | refine u_f ?_ | refine v_s ?_ | refine v_o ?_ | refine v_on ?_ | refine v_og ?_ | refine v_q ?_ | refine v_sr ?_ | refine v_k ?_ | refine m_nil ?_)
  refine awp_toRows 10 4 1 rfl rfl rfl rfl ?_
  refine awp_loop (fun i : Nat => i ≤ ws.length) (fun i => [(1, .d (rows ws)), (2, .d (.ptr (mach s o nx ou))), (5, .own 10), (12, .d (.int .i64 ws.length)), (13, .d (.int .i64 i))]) (fun i => [(10, .rows 64 4 1 (tabB i M fun _ _ => false) none)]) (fun i => ws.length - i) 0 (by omega) ?_ rfl ?_
  · refine ⟨rfl, rfl, rfl, ?_, rfl, trivial⟩
    exact congrArg (fun n : Nat => SV.d (.int .i64 n)) hle
  · intro i hi
    by_cases hlt : i < ws.length
    · have hsn := tabB_snoc (N := i) (M := M) (F := fun _ _ => false)
      repeat (first | refine awp_seq ?_ | refine then_n ?_ | refine then_r ?_ | refine then_x ?_ | refine block_n ?_ | refine block_r ?_ | refine block_x ?_ | refine u_y ?_ | refine loop_r ?_ | refine loop_x ?_ | refine awp_region ?_ | refine awpL_nil ?_ | refine awpQL_nil ?_ | refine awp_block ?_ | refine awp_skip ?_ | refine awp_exit ?_ | refine awp_label ?_ | refine u_dT ?_ | refine u_d ?_ | ((first | apply c_l | apply c_q | apply c_lr | apply c_qr); (iterate 2 exact rfl); (focus (first | exact e1)); (iterate 2 exact rfl)) | (apply v_c; (iterate 4 exact rfl); (focus (first | exact e1)); (iterate 2 exact rfl)) | refine u_l ?_ | refine u_o ?_ | refine u_q ?_ | refine u_lr ?_ | refine u_qr ?_ | refine u_ls ?_ | refine u_qs ?_ | refine u_t ?_ | refine u_f ?_ | refine v_s ?_ | refine v_o ?_ | refine v_on ?_ | refine v_og ?_ | refine v_q ?_ | refine v_sr ?_ | refine v_k ?_ | refine m_nil ?_)
      refine loop_n (i + 1) (by omega) ?_ ?_ (by omega)
      · ((repeat (first | exact trivial | (refine ⟨?_, ?_⟩; (focus (first | rfl | (simp [lk, argsS, args0]; done) | (simp [lk, argsS, args0]; omega)))))))
      · rw [hsn, ← hz]; rfl
    · have : i = ws.length := by omega
      subst this
      rw [← tabF_none (s := s) (o := o) (nx := nx) (ou := ou) (ws := ws)]
      repeat (first | refine awp_seq ?_ | refine then_n ?_ | refine then_r ?_ | refine then_x ?_ | refine block_n ?_ | refine block_r ?_ | refine block_x ?_ | refine u_y ?_ | refine loop_r ?_ | refine loop_x ?_ | refine awp_region ?_ | refine awpL_nil ?_ | refine awpQL_nil ?_ | refine awp_block ?_ | refine awp_skip ?_ | refine awp_exit ?_ | refine awp_label ?_ | refine u_dT ?_ | refine u_d ?_ | ((first | apply c_l | apply c_q | apply c_lr | apply c_qr); (iterate 2 exact rfl); (focus (first | exact e1)); (iterate 2 exact rfl)) | (apply v_c; (iterate 4 exact rfl); (focus (first | exact e1)); (iterate 2 exact rfl)) | refine u_l ?_ | refine u_o ?_ | refine u_q ?_ | refine u_lr ?_ | refine u_qr ?_ | refine u_ls ?_ | refine u_qs ?_ | refine u_t ?_ | refine u_f ?_ | refine v_s ?_ | refine v_o ?_ | refine v_on ?_ | refine v_og ?_ | refine v_q ?_ | refine v_sr ?_ | refine v_k ?_ | refine m_nil ?_)
      refine awp_loop (fun k : Nat => k ≤ M) (fun k => [(1, .d (rows ws)), (2, .d (.ptr (mach s o nx ou))), (5, .own 10), (23, .d (.int .i64 M)), (24, .d (.int .i64 k))]) (fun k => [(10, .rows 64 4 1 (tabB ws.length M (tabF s o nx ou ws k 0)) none)]) (fun k => M - k) 0 (by omega) ?_ rfl ?_
      · ((repeat (first | exact trivial | (refine ⟨?_, ?_⟩; (focus (first | rfl | (simp [lk, argsS, args0]; done) | (simp [lk, argsS, args0]; omega)))))))
      · intro k hk
        by_cases hkl : k < M
        · have e2 := hmut k hkl
          obtain ⟨m', hl'⟩ := hmv k hkl
          have hkW : ∀ i, kW s o nx ou ws i k = decide (0 ≤ failW nx ou (mutX s o nx ou k).1 (mutX s o nx ou k).2 0 0 0 (ws.getD i [])) := fun _ => rfl
          generalize mutX s o nx ou k = X at *
          repeat (first | refine awp_seq ?_ | refine then_n ?_ | refine then_r ?_ | refine then_x ?_ | refine block_n ?_ | refine block_r ?_ | refine block_x ?_ | refine u_y ?_ | refine loop_r ?_ | refine loop_x ?_ | refine awp_region ?_ | refine awpL_nil ?_ | refine awpQL_nil ?_ | refine awp_block ?_ | refine awp_skip ?_ | refine awp_exit ?_ | refine awp_label ?_ | refine u_dT ?_ | refine u_d ?_ | ((first | apply c_l | apply c_q | apply c_lr | apply c_qr); (iterate 2 exact rfl); (focus (first | exact e2)); (iterate 2 exact rfl)) | (apply v_c; (iterate 4 exact rfl); (focus (first | exact e2)); (iterate 2 exact rfl)) | refine u_l ?_ | refine u_o ?_ | refine u_q ?_ | refine u_lr ?_ | refine u_qr ?_ | refine u_ls ?_ | refine u_qs ?_ | refine u_t ?_ | refine u_f ?_ | refine v_s ?_ | refine v_o ?_ | refine v_on ?_ | refine v_og ?_ | refine v_q ?_ | refine v_sr ?_ | refine v_k ?_ | refine m_nil ?_)
          refine awp_freezeB 7 rfl rfl rfl ?_
          refine awp_loop (fun j : Nat => j ≤ ws.length) (fun j => [(1, .d (rows ws)), (2, .d (.ptr (mach s o nx ou))), (5, .own 10), (6, .d (.int .i64 k)), (7, .d (.ptr (mach s o X.1 X.2))), (23, .d (.int .i64 M)), (24, .d (.int .i64 k)), (30, .d (rows ws)), (31, .d (.int .i64 ws.length)), (32, .d (.int .i64 j))]) (fun j => [(10, .rows 64 4 1 (tabB ws.length M (tabF s o nx ou ws k j)) none)]) (fun j => ws.length - j) 0 (by omega) ?_ rfl ?_
          · refine ⟨rfl, rfl, rfl, rfl, rfl, rfl, rfl, rfl, ?_, rfl, trivial⟩
            exact congrArg (fun n : Nat => SV.d (.int .i64 n)) hle
          · intro j hj
            by_cases hjl : j < ws.length
            · have e3 := impl_passes m m' hl' (suOne (hwa _ (List.getElem_mem hjl)))
              rw [failS_one] at e3
              have hel : (List.map ints ws)[(j : Int).toNat]? = some (ints ws[j]) := by simp [hjl]
              have htg := tabB_get (M := M) (F := tabF s o nx ou ws k j) hjl
              have hts := tabF_next (s := s) (o := o) (nx := nx) (ou := ou) (ws := ws) (k := k) (j := j) (N := ws.length) (M := M)
              have hset : (tabB ws.length M (tabF s o nx ou ws k j)).set (j : Int).toNat ((rowB M (tabF s o nx ou ws k j j)).set (k : Int).toNat (.bool (!decide (failW nx ou X.1 X.2 0 0 0 ws[j] < 0)))) = tabB ws.length M (tabF s o nx ou ws k (j + 1)) := by
                rw [Int.toNat_natCast, Int.toNat_natCast, rowB_set, tabB_set, ← hts]
                have hv : (!decide (failW nx ou X.1 X.2 0 0 0 ws[j] < 0)) = kW s o nx ou ws j k := by
                  rw [hkW, List.getD_eq_getElem?_getD, List.getElem?_eq_getElem hjl, Option.getD_some]
                  by_cases h : failW nx ou X.1 X.2 0 0 0 ws[j] < 0
                  · simp [h] <;> omega
                  · simp [h] <;> omega
                rw [hv]
                refine tabB_congr fun i g _ _ => ?_
                by_cases hij : i = j <;> simp [hij]
              repeat (first | refine awp_seq ?_ | refine then_n ?_ | refine then_r ?_ | refine then_x ?_ | refine block_n ?_ | refine block_r ?_ | refine block_x ?_ | refine u_y ?_ | refine loop_r ?_ | refine loop_x ?_ | refine awp_region ?_ | refine awpL_nil ?_ | refine awpQL_nil ?_ | refine awp_block ?_ | refine awp_skip ?_ | refine awp_exit ?_ | refine awp_label ?_ | refine u_l ?_ | refine u_o ?_ | refine u_q ?_ | refine u_lr ?_ | refine u_qr ?_ | refine u_ls ?_ | refine u_qs ?_ | refine u_t ?_ | refine u_f ?_ | refine v_s ?_ | refine v_o ?_ | refine v_on ?_ | refine v_og ?_ | refine v_q ?_ | refine v_sr ?_ | refine v_k ?_ | refine m_nil ?_)
              refine awp_carve0 10 (j : Int).toNat 300 rfl htg rfl rfl rfl ?_
              repeat (first | refine awp_seq ?_ | refine then_n ?_ | refine then_r ?_ | refine then_x ?_ | refine block_n ?_ | refine block_r ?_ | refine block_x ?_ | refine u_y ?_ | refine loop_r ?_ | refine loop_x ?_ | refine awpL_nil ?_ | refine awpQL_nil ?_ | refine awp_block ?_ | refine awp_skip ?_ | refine awp_exit ?_ | refine awp_label ?_ | refine u_dT ?_ | refine u_d ?_ | ((first | apply x_l | apply x_q | apply x_lr | apply x_qr); (focus (first | (apply wa_loadHole; (iterate 5 (focus (first | exact rfl | (first | assumption | omega | (simp; omega) | (simp; done) | rfl))))))); exact rfl) | ((first | apply c_l | apply c_q | apply c_lr | apply c_qr); (iterate 2 exact rfl); (focus (first | exact e3)); (iterate 2 exact rfl)) | (apply v_x; (iterate 2 exact rfl); (focus (intro ok0 nw hle; (first | (apply wa_loadHole; (iterate 5 (focus (first | exact rfl | (first | assumption | omega | (simp; omega) | (simp; done) | rfl)))))))); (iterate 2 exact rfl)) | (apply v_c; (iterate 4 exact rfl); (focus (first | exact e3)); (iterate 2 exact rfl)) | refine u_l ?_ | refine u_o ?_ | refine u_q ?_ | refine u_lr ?_ | refine u_qr ?_ | refine u_ls ?_ | refine u_qs ?_ | refine u_t ?_ | refine u_f ?_ | refine v_s ?_ | refine v_o ?_ | refine v_on ?_ | refine v_og ?_ | refine v_q ?_ | refine v_sr ?_ | refine v_k ?_ | refine m_nil ?_)
              refine awp_back 10 300 (by exact rfl) (by exact rfl) (by exact rfl) (by exact rfl) (by exact rfl) (by exact rfl) htg (by simp) ?_
              repeat (first | refine awp_seq ?_ | refine then_n ?_ | refine then_r ?_ | refine then_x ?_ | refine block_n ?_ | refine block_r ?_ | refine block_x ?_ | refine u_y ?_ | refine loop_r ?_ | refine loop_x ?_ | refine awp_region ?_ | refine awpL_nil ?_ | refine awpQL_nil ?_ | refine awp_block ?_ | refine awp_skip ?_ | refine awp_exit ?_ | refine awp_label ?_ | refine u_dT ?_ | refine u_d ?_ | refine u_l ?_ | refine u_o ?_ | refine u_q ?_ | refine u_lr ?_ | refine u_qr ?_ | refine u_ls ?_ | refine u_qs ?_ | refine u_t ?_ | refine u_f ?_ | refine v_s ?_ | refine v_o ?_ | refine v_on ?_ | refine v_og ?_ | refine v_q ?_ | refine v_sr ?_ | refine v_k ?_ | refine m_nil ?_)
              refine loop_n (j + 1) (by omega) ?_ ?_ (by omega)
              · ((repeat (first | exact trivial | (refine ⟨?_, ?_⟩; (focus (first | rfl | (simp [lk, argsS, args0]; done) | (simp [lk, argsS, args0]; omega)))))))
              · rw [← hset]; rfl
            · have : j = ws.length := by omega
              subst this
              rw [tabF_row]
              repeat (first | refine awp_seq ?_ | refine then_n ?_ | refine then_r ?_ | refine then_x ?_ | refine block_n ?_ | refine block_r ?_ | refine block_x ?_ | refine u_y ?_ | refine loop_r ?_ | refine loop_x ?_ | refine awp_region ?_ | refine awpL_nil ?_ | refine awpQL_nil ?_ | refine awp_block ?_ | refine awp_skip ?_ | refine awp_exit ?_ | refine awp_label ?_ | refine u_dT ?_ | refine u_d ?_ | refine u_l ?_ | refine u_o ?_ | refine u_q ?_ | refine u_lr ?_ | refine u_qr ?_ | refine u_ls ?_ | refine u_qs ?_ | refine u_t ?_ | refine u_f ?_ | refine v_s ?_ | refine v_o ?_ | refine v_on ?_ | refine v_og ?_ | refine v_q ?_ | refine v_sr ?_ | refine v_k ?_ | refine m_nil ?_)
              refine loop_n (k + 1) (by omega) ?_ rfl (by omega)
              ((repeat (first | exact trivial | (refine ⟨?_, ?_⟩; (focus (first | rfl | (simp [lk, argsS, args0]; done) | (simp [lk, argsS, args0]; omega)))))))
        · have : k = M := by omega
          subst this
          rw [tabF_all]
          repeat (first | refine awp_seq ?_ | refine then_n ?_ | refine then_r ?_ | refine then_x ?_ | refine block_n ?_ | refine block_r ?_ | refine block_x ?_ | refine u_y ?_ | refine loop_r ?_ | refine loop_x ?_ | refine awp_region ?_ | refine awpL_nil ?_ | refine awpQL_nil ?_ | refine awp_block ?_ | refine awp_skip ?_ | refine awp_exit ?_ | refine awp_label ?_ | refine u_dT ?_ | refine u_d ?_ | refine u_l ?_ | refine u_o ?_ | refine u_q ?_ | refine u_lr ?_ | refine u_qr ?_ | refine u_ls ?_ | refine u_qs ?_ | refine u_t ?_ | refine u_f ?_ | refine v_s ?_ | refine v_o ?_ | refine v_on ?_ | refine v_og ?_ | refine v_q ?_ | refine v_sr ?_ | refine v_k ?_ | refine m_nil ?_)
          (refine awp_ret ?_; (repeat (first | refine then_r ?_ | refine block_r ?_ | refine loop_r ?_)); apply ret_ok (.inr rfl); (focus exact rfl))
          rfl
theorem spec_l07TableA {s o : Int} {nx ou ws : List (List Int)} (m : MV s o nx ou) (hwl : ws.length ≤ 2000) (hwa : ∀ w ∈ ws, w.length ≤ 400 ∧ ∀ l ∈ w, 0 ≤ l ∧ l < nx.length) :
    AC Try.prog 44 [.ptr (mach s o nx ou), rows ws] (.lst ((tabB ws.length (mutN s o nx.length).toNat (kW s o nx ou ws)).map D.lst)) := by
  have hb := mutN_bounds m.s1 m.o1 m.n1.2
  have e1 := spec_l07Count (ou := ou) m.s1 m.o1 m.n1.2
  have hle : (List.map ints ws).length = ws.length := by simp
  obtain ⟨M, hM⟩ : ∃ M : Nat, mutN s o nx.length = M := ⟨(mutN s o nx.length).toNat, by omega⟩
  have hMt : (mutN s o nx.length).toNat = M := by omega
  rw [hMt]
  have hmut : ∀ k : Nat, k < M → AC Try.prog 88 [.ptr (mach s o nx ou), .int .i64 k] (mach s o (mutX s o nx ou k).1 (mutX s o nx ou k).2) := fun k hk => spec_l07Mutant m (k := (k : Int)) (by omega)
  have hmv : ∀ k : Nat, k < M → MV s o (mutX s o nx ou k).1 (mutX s o nx ou k).2 ∧ (mutX s o nx ou k).1.length = nx.length := fun k hk => mv_mut m (k := (k : Int)) (by omega)
  rw [hM] at e1 hb
  have hz : List.replicate ((M : Nat) : Int).toNat (D.bool false) = rowB M fun _ => false := by rw [Int.toNat_natCast, rowB_rep]
  refine ac_intro tabIs _ Try.func44 rfl rfl Try.ntmps44 rfl rfl fun w0 ok0 => ?_
  repeat (first | refine v_w (t := 10) ?_ | refine awp_seq ?_ | refine then_n ?_ | refine then_r ?_ | refine then_x ?_ | refine block_n ?_ | refine block_r ?_ | refine block_x ?_ | refine u_y ?_ | refine loop_r ?_ | refine loop_x ?_ | refine awp_region ?_ | refine awpL_nil ?_ | refine awpQL_nil ?_ | refine awp_block ?_ | refine awp_skip ?_ | refine awp_exit ?_ | refine awp_label ?_ | refine u_dT ?_ | refine u_d ?_ | refine u_w (t := 10) ?_ | refine u_l ?_ | refine u_o ?_ | refine u_q ?_ | refine u_lr ?_ | refine u_qr ?_ | refine u_ls ?_ | refine u_qs ?_ | refine u_t ?_ | refine u_f ?_ | refine v_s ?_ | refine v_o ?_ | refine v_on ?_ | refine v_og ?_ | refine v_q ?_ | refine v_sr ?_ | refine v_k ?_ | refine m_nil ?_)
  refine awp_toRows 10 4 1 rfl rfl rfl rfl ?_
  refine awp_loop (fun i : Nat => i ≤ ws.length) (fun i => [(0, .d (.ptr (mach s o nx ou))), (1, .d (rows ws)), (5, .own 10), (6, .d (.int .i64 i))]) (fun i => [(10, .rows 64 4 1 (tabB i M fun _ _ => false) none)]) (fun i => ws.length - i) 0 (by omega) ?_ rfl ?_
  · ((repeat (first | exact trivial | (refine ⟨?_, ?_⟩; (focus (first | rfl | (simp [lk, argsS, args0]; done) | (simp [lk, argsS, args0]; omega)))))))
  · intro i hi
    by_cases hlt : i < ws.length
    · have hsn := tabB_snoc (N := i) (M := M) (F := fun _ _ => false)
      repeat (first | refine awp_seq ?_ | refine then_n ?_ | refine then_r ?_ | refine then_x ?_ | refine block_n ?_ | refine block_r ?_ | refine block_x ?_ | refine u_y ?_ | refine loop_r ?_ | refine loop_x ?_ | refine awp_region ?_ | refine awpL_nil ?_ | refine awpQL_nil ?_ | refine awp_block ?_ | refine awp_skip ?_ | refine awp_exit ?_ | refine awp_label ?_ | refine u_dT ?_ | refine u_d ?_ | ((first | apply c_l | apply c_q | apply c_lr | apply c_qr); (iterate 2 exact rfl); (focus (first | exact e1)); (iterate 2 exact rfl)) | (apply v_c; (iterate 4 exact rfl); (focus (first | exact e1)); (iterate 2 exact rfl)) | refine u_l ?_ | refine u_o ?_ | refine u_q ?_ | refine u_lr ?_ | refine u_qr ?_ | refine u_ls ?_ | refine u_qs ?_ | refine u_t ?_ | refine u_f ?_ | refine v_s ?_ | refine v_o ?_ | refine v_on ?_ | refine v_og ?_ | refine v_q ?_ | refine v_sr ?_ | refine v_k ?_ | refine m_nil ?_)
      refine loop_n (i + 1) (by omega) ?_ ?_ (by omega)
      · ((repeat (first | exact trivial | (refine ⟨?_, ?_⟩; (focus (first | rfl | (simp [lk, argsS, args0]; done) | (simp [lk, argsS, args0]; omega)))))))
      · rw [hsn, ← hz]; rfl
    · have : i = ws.length := by omega
      subst this
      rw [← tabF_none (s := s) (o := o) (nx := nx) (ou := ou) (ws := ws)]
      repeat (first | refine awp_seq ?_ | refine then_n ?_ | refine then_r ?_ | refine then_x ?_ | refine block_n ?_ | refine block_r ?_ | refine block_x ?_ | refine u_y ?_ | refine loop_r ?_ | refine loop_x ?_ | refine awp_region ?_ | refine awpL_nil ?_ | refine awpQL_nil ?_ | refine awp_block ?_ | refine awp_skip ?_ | refine awp_exit ?_ | refine awp_label ?_ | refine u_dT ?_ | refine u_d ?_ | ((first | apply c_l | apply c_q | apply c_lr | apply c_qr); (iterate 2 exact rfl); (focus (first | exact e1)); (iterate 2 exact rfl)) | (apply v_c; (iterate 4 exact rfl); (focus (first | exact e1)); (iterate 2 exact rfl)) | refine u_l ?_ | refine u_o ?_ | refine u_q ?_ | refine u_lr ?_ | refine u_qr ?_ | refine u_ls ?_ | refine u_qs ?_ | refine u_t ?_ | refine u_f ?_ | refine v_s ?_ | refine v_o ?_ | refine v_on ?_ | refine v_og ?_ | refine v_q ?_ | refine v_sr ?_ | refine v_k ?_ | refine m_nil ?_)
      refine awp_loop (fun k : Nat => k ≤ M) (fun k => [(0, .d (.ptr (mach s o nx ou))), (1, .d (rows ws)), (5, .own 10), (7, .d (.int .i64 k))]) (fun k => [(10, .rows 64 4 1 (tabB ws.length M (tabF s o nx ou ws k 0)) none)]) (fun k => M - k) 0 (by omega) ?_ rfl ?_
      · ((repeat (first | exact trivial | (refine ⟨?_, ?_⟩; (focus (first | rfl | (simp [lk, argsS, args0]; done) | (simp [lk, argsS, args0]; omega)))))))
      · intro k hk
        by_cases hkl : k < M
        · have e2 := hmut k hkl
          obtain ⟨m', hl'⟩ := hmv k hkl
          have hkW : ∀ i, kW s o nx ou ws i k = decide (0 ≤ failW nx ou (mutX s o nx ou k).1 (mutX s o nx ou k).2 0 0 0 (ws.getD i [])) := fun _ => rfl
          generalize mutX s o nx ou k = X at *
          repeat (first | refine awp_seq ?_ | refine then_n ?_ | refine then_r ?_ | refine then_x ?_ | refine block_n ?_ | refine block_r ?_ | refine block_x ?_ | refine u_y ?_ | refine loop_r ?_ | refine loop_x ?_ | refine awp_region ?_ | refine awpL_nil ?_ | refine awpQL_nil ?_ | refine awp_block ?_ | refine awp_skip ?_ | refine awp_exit ?_ | refine awp_label ?_ | refine u_dT ?_ | refine u_d ?_ | ((first | apply c_l | apply c_q | apply c_lr | apply c_qr); (iterate 2 exact rfl); (focus (first | exact e1 | exact e2)); (iterate 2 exact rfl)) | (apply v_c; (iterate 4 exact rfl); (focus (first | exact e1 | exact e2)); (iterate 2 exact rfl)) | refine u_l ?_ | refine u_o ?_ | refine u_q ?_ | refine u_lr ?_ | refine u_qr ?_ | refine u_ls ?_ | refine u_qs ?_ | refine u_t ?_ | refine u_f ?_ | refine v_s ?_ | refine v_o ?_ | refine v_on ?_ | refine v_og ?_ | refine v_q ?_ | refine v_sr ?_ | refine v_k ?_ | refine m_nil ?_)
          refine awp_freezeB 8 rfl rfl rfl ?_
          refine awp_loop (fun j : Nat => j ≤ ws.length) (fun j => [(0, .d (.ptr (mach s o nx ou))), (1, .d (rows ws)), (5, .own 10), (7, .d (.int .i64 k)), (8, .d (.ptr (mach s o X.1 X.2))), (9, .d (.int .i64 j))]) (fun j => [(10, .rows 64 4 1 (tabB ws.length M (tabF s o nx ou ws k j)) none)]) (fun j => ws.length - j) 0 (by omega) ?_ rfl ?_
          · ((repeat (first | exact trivial | (refine ⟨?_, ?_⟩; (focus (first | rfl | (simp [lk, argsS, args0]; done) | (simp [lk, argsS, args0]; omega)))))))
          · intro j hj
            by_cases hjl : j < ws.length
            · have e3 := spec_l07Fails (w := ws[j]) m m' hl' (hwa _ (List.getElem_mem hjl)).1 (hwa _ (List.getElem_mem hjl)).2
              have hel : (List.map ints ws)[(j : Int).toNat]? = some (ints ws[j]) := by simp [hjl]
              have htg := tabB_get (M := M) (F := tabF s o nx ou ws k j) hjl
              have hts := tabF_next (s := s) (o := o) (nx := nx) (ou := ou) (ws := ws) (k := k) (j := j) (N := ws.length) (M := M)
              have hset : (tabB ws.length M (tabF s o nx ou ws k j)).set (j : Int).toNat ((rowB M (tabF s o nx ou ws k j j)).set (k : Int).toNat (.bool (decide (0 ≤ failW nx ou X.1 X.2 0 0 0 ws[j])))) = tabB ws.length M (tabF s o nx ou ws k (j + 1)) := by
                rw [Int.toNat_natCast, Int.toNat_natCast, rowB_set, tabB_set, ← hts]
                have hv : (decide (0 ≤ failW nx ou X.1 X.2 0 0 0 ws[j])) = kW s o nx ou ws j k := by
                  rw [hkW, List.getD_eq_getElem?_getD, List.getElem?_eq_getElem hjl, Option.getD_some]
                rw [hv]
                refine tabB_congr fun i g _ _ => ?_
                by_cases hij : i = j <;> simp [hij]
              repeat (first | refine awp_seq ?_ | refine then_n ?_ | refine then_r ?_ | refine then_x ?_ | refine block_n ?_ | refine block_r ?_ | refine block_x ?_ | refine u_y ?_ | refine loop_r ?_ | refine loop_x ?_ | refine awp_region ?_ | refine awpL_nil ?_ | refine awpQL_nil ?_ | refine awp_block ?_ | refine awp_skip ?_ | refine awp_exit ?_ | refine awp_label ?_ | refine u_l ?_ | refine u_o ?_ | refine u_q ?_ | refine u_lr ?_ | refine u_qr ?_ | refine u_ls ?_ | refine u_qs ?_ | refine u_t ?_ | refine u_f ?_ | refine v_s ?_ | refine v_o ?_ | refine v_on ?_ | refine v_og ?_ | refine v_q ?_ | refine v_sr ?_ | refine v_k ?_ | refine m_nil ?_)
              refine awp_carve0 10 (j : Int).toNat 300 rfl htg rfl rfl rfl ?_
              repeat (first | refine awp_seq ?_ | refine then_n ?_ | refine then_r ?_ | refine then_x ?_ | refine block_n ?_ | refine block_r ?_ | refine block_x ?_ | refine u_y ?_ | refine loop_r ?_ | refine loop_x ?_ | refine awpL_nil ?_ | refine awpQL_nil ?_ | refine awp_block ?_ | refine awp_skip ?_ | refine awp_exit ?_ | refine awp_label ?_ | refine u_dT ?_ | refine u_d ?_ | ((first | apply x_l | apply x_q | apply x_lr | apply x_qr); (focus (first | (apply wa_loadHole; (iterate 5 (focus (first | exact rfl | (first | assumption | omega | (simp; omega) | (simp; done) | rfl))))))); exact rfl) | ((first | apply c_l | apply c_q | apply c_lr | apply c_qr); (iterate 2 exact rfl); (focus (first | exact e3)); (iterate 2 exact rfl)) | (apply v_x; (iterate 2 exact rfl); (focus (intro ok0 nw hle; (first | (apply wa_loadHole; (iterate 5 (focus (first | exact rfl | (first | assumption | omega | (simp; omega) | (simp; done) | rfl)))))))); (iterate 2 exact rfl)) | (apply v_c; (iterate 4 exact rfl); (focus (first | exact e3)); (iterate 2 exact rfl)) | refine u_l ?_ | refine u_o ?_ | refine u_q ?_ | refine u_lr ?_ | refine u_qr ?_ | refine u_ls ?_ | refine u_qs ?_ | refine u_t ?_ | refine u_f ?_ | refine v_s ?_ | refine v_o ?_ | refine v_on ?_ | refine v_og ?_ | refine v_q ?_ | refine v_sr ?_ | refine v_k ?_ | refine m_nil ?_)
              refine awp_back 10 300 (by exact rfl) (by exact rfl) (by exact rfl) (by exact rfl) (by exact rfl) (by exact rfl) htg (by simp) ?_
              repeat (first | refine awp_seq ?_ | refine then_n ?_ | refine then_r ?_ | refine then_x ?_ | refine block_n ?_ | refine block_r ?_ | refine block_x ?_ | refine u_y ?_ | refine loop_r ?_ | refine loop_x ?_ | refine awp_region ?_ | refine awpL_nil ?_ | refine awpQL_nil ?_ | refine awp_block ?_ | refine awp_skip ?_ | refine awp_exit ?_ | refine awp_label ?_ | refine u_dT ?_ | refine u_d ?_ | refine u_l ?_ | refine u_o ?_ | refine u_q ?_ | refine u_lr ?_ | refine u_qr ?_ | refine u_ls ?_ | refine u_qs ?_ | refine u_t ?_ | refine u_f ?_ | refine v_s ?_ | refine v_o ?_ | refine v_on ?_ | refine v_og ?_ | refine v_q ?_ | refine v_sr ?_ | refine v_k ?_ | refine m_nil ?_)
              refine loop_n (j + 1) (by omega) ?_ ?_ (by omega)
              · ((repeat (first | exact trivial | (refine ⟨?_, ?_⟩; (focus (first | rfl | (simp [lk, argsS, args0]; done) | (simp [lk, argsS, args0]; omega)))))))
              · rw [← hset]; rfl
            · have : j = ws.length := by omega
              subst this
              rw [tabF_row]
              repeat (first | refine awp_seq ?_ | refine then_n ?_ | refine then_r ?_ | refine then_x ?_ | refine block_n ?_ | refine block_r ?_ | refine block_x ?_ | refine u_y ?_ | refine loop_r ?_ | refine loop_x ?_ | refine awp_region ?_ | refine awpL_nil ?_ | refine awpQL_nil ?_ | refine awp_block ?_ | refine awp_skip ?_ | refine awp_exit ?_ | refine awp_label ?_ | refine u_dT ?_ | refine u_d ?_ | refine u_l ?_ | refine u_o ?_ | refine u_q ?_ | refine u_lr ?_ | refine u_qr ?_ | refine u_ls ?_ | refine u_qs ?_ | refine u_t ?_ | refine u_f ?_ | refine v_s ?_ | refine v_o ?_ | refine v_on ?_ | refine v_og ?_ | refine v_q ?_ | refine v_sr ?_ | refine v_k ?_ | refine m_nil ?_)
              refine loop_n (k + 1) (by omega) ?_ rfl (by omega)
              ((repeat (first | exact trivial | (refine ⟨?_, ?_⟩; (focus (first | rfl | (simp [lk, argsS, args0]; done) | (simp [lk, argsS, args0]; omega)))))))
        · have : k = M := by omega
          subst this
          rw [tabF_all]
          repeat (first | refine awp_seq ?_ | refine then_n ?_ | refine then_r ?_ | refine then_x ?_ | refine block_n ?_ | refine block_r ?_ | refine block_x ?_ | refine u_y ?_ | refine loop_r ?_ | refine loop_x ?_ | refine awp_region ?_ | refine awpL_nil ?_ | refine awpQL_nil ?_ | refine awp_block ?_ | refine awp_skip ?_ | refine awp_exit ?_ | refine awp_label ?_ | refine u_dT ?_ | refine u_d ?_ | ((first | apply c_l | apply c_q | apply c_lr | apply c_qr); (iterate 2 exact rfl); (focus (first | exact e1)); (iterate 2 exact rfl)) | (apply v_c; (iterate 4 exact rfl); (focus (first | exact e1)); (iterate 2 exact rfl)) | refine u_l ?_ | refine u_o ?_ | refine u_q ?_ | refine u_lr ?_ | refine u_qr ?_ | refine u_ls ?_ | refine u_qs ?_ | refine u_t ?_ | refine u_f ?_ | refine v_s ?_ | refine v_o ?_ | refine v_on ?_ | refine v_og ?_ | refine v_q ?_ | refine v_sr ?_ | refine v_k ?_ | refine m_nil ?_)
          (refine awp_ret ?_; (repeat (first | refine then_r ?_ | refine block_r ?_ | refine loop_r ?_)); apply ret_ok (.inr rfl); (focus exact rfl))
          rfl
end Go.Proofs.Ytkaffmojojnhhaa

/-! Rows given by their places. No condition. -/
namespace Go.Proofs.Ytkaffmojojnhhaa
open Go
attribute [local irreducible] awp awpL awpQL awpQ awpM pWalk Qt AC thenQ blockQ loopQ OpTo
set_option linter.unusedVariables false
set_option linter.unusedSimpArgs false
set_option maxHeartbeats 2000000

/-! ### A row by its places -/

def fnL (N : Nat) (F : Nat → Int) : List Int := (List.range N).map F

@[simp] theorem fnL_length {N : Nat} {F : Nat → Int} : (fnL N F).length = N := by simp [fnL]
theorem fnL_get {N k : Nat} {F : Nat → Int} (h : k < N) : (fnL N F)[k]? = some (F k) := by simp [fnL, h]
end Go.Proofs.Ytkaffmojojnhhaa
