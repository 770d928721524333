/- Words of machines: joined words, all words with at most some letters. No condition. -/
import Derived.Test.YtfemhnmggobhjaaPe
import Derived.Test.YtfemhnmggobhjaaFwW
import Derived.Test.YtfemhnmggobhjaaFwQ
import Derived.Test.YtfemhnmggobhjaaTb
namespace Go.Proofs.Ytfemhnmggobhjaa
open Go
attribute [local irreducible] awp awpL awpQL awpQ awpM pWalk Qt AC thenQ blockQ loopQ OpTo
set_option linter.unusedVariables false
set_option linter.unusedSimpArgs false
set_option maxHeartbeats 2000000
attribute [local irreducible] HC

/-! ### Joined lists -/
theorem slices_Grow {n : Int} (hn : 0 ≤ n ∧ n ≤ 1000000) : HC Try.prog 62 [.d .nils, .d (.int .i64 n)] [] (.own 30000) [(30000, .arr 2 1 [])] := by
  by_cases h0 : n = 0
  · subst h0
    refine hc_intro tabIs _ Try.func62 rfl rfl Try.ntmps62 rfl rfl rfl ?_ fun w0 ok0 XM XA anc => ?_
    · exact likeIn_nil
    repeat (first | refine awp_seq ?_ | refine then_n ?_ | refine then_r ?_ | refine then_x ?_ | refine block_n ?_ | refine block_r ?_ | refine block_x ?_ | refine u_y ?_ | refine loop_r ?_ | refine loop_x ?_ | refine awp_region ?_ | refine awpL_nil ?_ | refine awpQL_nil ?_ | refine awp_block ?_ | refine awp_skip ?_ | refine awp_exit ?_ | refine awp_label ?_ | refine u_dT ?_ | refine u_d ?_ | ((first | apply x_l | apply x_q | apply x_lr | apply x_qr); (focus (first | (apply qw_capNil; (iterate 3 (focus (first | exact rfl | (first | assumption | omega | (simp; omega) | (simp; done) | rfl))))))); exact rfl) | (apply v_x; (iterate 2 exact rfl); (focus (intro ok0 nw hle; (first | (apply qw_capNil; (iterate 3 (focus (first | exact rfl | (first | assumption | omega | (simp; omega) | (simp; done) | rfl)))))))); (iterate 2 exact rfl)) | refine u_l ?_ | refine u_o ?_ | refine u_q ?_ | refine u_lr ?_ | refine u_qr ?_ | refine u_ls ?_ | refine u_qs ?_ | refine u_t ?_ | refine u_f ?_ | refine v_s ?_ | refine v_o ?_ | refine v_on ?_ | refine v_og ?_ | refine v_q ?_ | refine v_sr ?_ | refine v_k ?_ | refine m_nil ?_)
    refine awp_nilSlot 4 200 2 1 rfl rfl rfl ?_
    (refine awp_ret ?_; (repeat (first | refine then_r ?_ | refine block_r ?_ | refine loop_r ?_)); refine u_rH [(200, 30000)] ?_ ?_)
    · rfl
    · rfl
  · refine hc_intro tabIs _ Try.func62 rfl rfl Try.ntmps62 rfl rfl rfl ?_ fun w0 ok0 XM XA anc => ?_
    · exact likeIn_nil
    repeat (first | refine awp_seq ?_ | refine then_n ?_ | refine then_r ?_ | refine then_x ?_ | refine block_n ?_ | refine block_r ?_ | refine block_x ?_ | refine u_y ?_ | refine loop_r ?_ | refine loop_x ?_ | refine awp_region ?_ | refine awpL_nil ?_ | refine awpQL_nil ?_ | refine awp_block ?_ | refine awp_skip ?_ | refine awp_exit ?_ | refine awp_label ?_ | refine u_dT ?_ | refine u_d ?_ | ((first | apply x_l | apply x_q | apply x_lr | apply x_qr); (focus (first | (apply qw_capNil; (iterate 3 (focus (first | exact rfl | (first | assumption | omega | (simp; omega) | (simp; done) | rfl))))) | (apply qw_sliceNil; (iterate 5 (focus (first | exact rfl | (first | assumption | omega | (simp; omega) | (simp; done) | rfl))))))); exact rfl) | (apply v_x; (iterate 2 exact rfl); (focus (intro ok0 nw hle; (first | (apply qw_capNil; (iterate 3 (focus (first | exact rfl | (first | assumption | omega | (simp; omega) | (simp; done) | rfl))))) | (apply qw_sliceNil; (iterate 5 (focus (first | exact rfl | (first | assumption | omega | (simp; omega) | (simp; done) | rfl)))))))); (iterate 2 exact rfl)) | refine u_l ?_ | refine u_o ?_ | refine u_q ?_ | refine u_lr ?_ | refine u_qr ?_ | refine u_ls ?_ | refine u_qs ?_ | refine u_t ?_ | refine u_f ?_ | refine v_s ?_ | refine v_o ?_ | refine v_on ?_ | refine v_og ?_ | refine v_q ?_ | refine v_sr ?_ | refine v_k ?_ | refine m_nil ?_)
    refine awpL_to rfl (by apply wo_appendZ; (iterate 12 exact rfl); omega; omega) ?_
    repeat (first | refine awp_seq ?_ | refine then_n ?_ | refine then_r ?_ | refine then_x ?_ | refine block_n ?_ | refine block_r ?_ | refine block_x ?_ | refine u_y ?_ | refine loop_r ?_ | refine loop_x ?_ | refine awp_region ?_ | refine awpL_nil ?_ | refine awpQL_nil ?_ | refine awp_block ?_ | refine awp_skip ?_ | refine awp_exit ?_ | refine awp_label ?_ | refine u_dT ?_ | refine u_d ?_ | refine u_l ?_ | refine u_o ?_ | refine u_q ?_ | refine u_lr ?_ | refine u_qr ?_ | refine u_ls ?_ | refine u_qs ?_ | refine u_t ?_ | refine u_f ?_ | refine v_s ?_ | refine v_o ?_ | refine v_on ?_ | refine v_og ?_ | refine v_q ?_ | refine v_sr ?_ | refine v_k ?_ | refine m_nil ?_)
    refine awpL_to rfl (by apply wo_cut; (iterate 8 exact rfl); omega; (simp; omega)) ?_
    repeat (first | refine awp_seq ?_ | refine then_n ?_ | refine then_r ?_ | refine then_x ?_ | refine block_n ?_ | refine block_r ?_ | refine block_x ?_ | refine u_y ?_ | refine loop_r ?_ | refine loop_x ?_ | refine awp_region ?_ | refine awpL_nil ?_ | refine awpQL_nil ?_ | refine awp_block ?_ | refine awp_skip ?_ | refine awp_exit ?_ | refine awp_label ?_ | refine u_dT ?_ | refine u_d ?_ | refine u_l ?_ | refine u_o ?_ | refine u_q ?_ | refine u_lr ?_ | refine u_qr ?_ | refine u_ls ?_ | refine u_qs ?_ | refine u_t ?_ | refine u_f ?_ | refine v_s ?_ | refine v_o ?_ | refine v_on ?_ | refine v_og ?_ | refine v_q ?_ | refine v_sr ?_ | refine v_k ?_ | refine m_nil ?_)
    (refine awp_ret ?_; (repeat (first | refine then_r ?_ | refine block_r ?_ | refine loop_r ?_)); refine u_rH [(22, 30000)] ?_ ?_)
    · rfl
    · rfl

theorem slices_Concat {ps : List (List Int)} (hp : ps.length ≤ 100) (hl : ps.flatten.length ≤ 100000) : HC Try.prog 51 [.d (rows ps)] [] (.own 30000) [(30000, .arr 2 1 (ps.flatten.map (.int .i64)))] := by
  have hle : (List.map ints ps).length = ps.length := by simp
  have hfl : ∀ i, i ≤ ps.length → (ps.take i).flatten.length ≤ ps.flatten.length := fun i hi => by
    have := congrArg (fun l => (List.flatten l).length) (List.take_append_drop i ps)
    simp only [List.flatten_append, List.length_append] at this
    omega
  have e1 := slices_Grow (n := (ps.flatten.length : Int)) (by omega)
  refine hc_intro tabIs _ Try.func51 rfl rfl Try.ntmps51 rfl rfl rfl ?_ fun w0 ok0 XM XA anc => ?_
  · exact likeIn_nil
  repeat (first | refine awp_seq ?_ | refine then_n ?_ | refine then_r ?_ | refine then_x ?_ | refine block_n ?_ | refine block_r ?_ | refine block_x ?_ | refine u_y ?_ | refine loop_r ?_ | refine loop_x ?_ | refine awp_region ?_ | refine awpL_nil ?_ | refine awpQL_nil ?_ | refine awp_block ?_ | refine awp_skip ?_ | refine awp_exit ?_ | refine awp_label ?_ | refine u_dT ?_ | refine u_d ?_ | refine u_l ?_ | refine u_o ?_ | refine u_q ?_ | refine u_lr ?_ | refine u_qr ?_ | refine u_ls ?_ | refine u_qs ?_ | refine u_t ?_ | refine u_f ?_ | refine v_s ?_ | refine v_o ?_ | refine v_on ?_ | refine v_og ?_ | refine v_q ?_ | refine v_sr ?_ | refine v_k ?_ | refine m_nil ?_)
  refine awp_loop (fun i : Nat => i ≤ ps.length) (fun i => [(0, .d (rows ps)), (3, .d (.int .i64 (ps.take i).flatten.length)), (9, .d (rows ps)), (10, .d (.int .i64 (List.map ints ps).length)), (11, .d (.int .i64 i))]) (fun _ => []) (fun i => ps.length - i) 0 (by omega) ?_ rfl ?_
  · ((repeat (first | exact trivial | (refine ⟨?_, ?_⟩; (focus (first | rfl | (simp [lk, argsS, args0]; done) | (simp [lk, argsS, args0]; omega)))))))
  · intro i hi
    have h1 := hfl i hi
    by_cases hlt : i < ps.length
    · have hx := el_row hlt
      have h2 := hfl (i + 1) hlt
      have hst : (ps.take (i + 1)).flatten = (ps.take i).flatten ++ ps[i] := by rw [List.take_succ_eq_append_getElem hlt, List.flatten_append]; simp
      rw [hst, List.length_append] at h2
      have hlx : (List.map (D.int .i64) ps[i]).length = ps[i].length := by simp
      generalize ps[i] = w at *
      generalize (ps.take i).flatten = u at *
      repeat (first | refine awp_seq ?_ | refine then_n ?_ | refine then_r ?_ | refine then_x ?_ | refine block_n ?_ | refine block_r ?_ | refine block_x ?_ | refine u_y ?_ | refine loop_r ?_ | refine loop_x ?_ | refine awp_region ?_ | refine awpL_nil ?_ | refine awpQL_nil ?_ | refine awp_block ?_ | refine awp_skip ?_ | refine awp_exit ?_ | refine awp_label ?_ | refine u_dT ?_ | refine u_d ?_ | refine u_l ?_ | refine u_o ?_ | refine u_q ?_ | refine u_lr ?_ | refine u_qr ?_ | refine u_ls ?_ | refine u_qs ?_ | refine u_t ?_ | refine u_f ?_ | refine v_s ?_ | refine v_o ?_ | refine v_on ?_ | refine v_og ?_ | refine v_q ?_ | refine v_sr ?_ | refine v_k ?_ | refine m_nil ?_)
      refine loop_n (i + 1) (by omega) ?_ rfl (by omega)
      rw [hst, List.length_append, Int.natCast_add]
      ((repeat (first | exact trivial | (refine ⟨?_, ?_⟩; (focus (first | rfl | (simp [lk, argsS, args0]; done) | (simp [lk, argsS, args0]; omega)))))))
    · have hie : i = ps.length := by omega
      subst hie
      rw [List.take_length]
      repeat (first | refine awp_seq ?_ | refine then_n ?_ | refine then_r ?_ | refine then_x ?_ | refine block_n ?_ | refine block_r ?_ | refine block_x ?_ | refine u_y ?_ | refine loop_r ?_ | refine loop_x ?_ | refine awp_region ?_ | refine awpL_nil ?_ | refine awpQL_nil ?_ | refine awp_block ?_ | refine awp_skip ?_ | refine awp_exit ?_ | refine awp_label ?_ | refine u_dT ?_ | refine u_d ?_ | refine u_l ?_ | refine u_o ?_ | refine u_q ?_ | refine u_lr ?_ | refine u_qr ?_ | refine u_ls ?_ | refine u_qs ?_ | refine u_t ?_ | refine u_f ?_ | refine v_s ?_ | refine v_o ?_ | refine v_on ?_ | refine v_og ?_ | refine v_q ?_ | refine v_sr ?_ | refine v_k ?_ | refine m_nil ?_)
      refine hcl [] [(30000, 500)] e1 ?_
      repeat (first | refine awp_seq ?_ | refine then_n ?_ | refine then_r ?_ | refine then_x ?_ | refine block_n ?_ | refine block_r ?_ | refine block_x ?_ | refine u_y ?_ | refine loop_r ?_ | refine loop_x ?_ | refine awp_region ?_ | refine awpL_nil ?_ | refine awpQL_nil ?_ | refine awp_block ?_ | refine awp_skip ?_ | refine awp_exit ?_ | refine awp_label ?_ | refine u_dT ?_ | refine u_d ?_ | refine u_l ?_ | refine u_o ?_ | refine u_q ?_ | refine u_lr ?_ | refine u_qr ?_ | refine u_ls ?_ | refine u_qs ?_ | refine u_t ?_ | refine u_f ?_ | refine v_s ?_ | refine v_o ?_ | refine v_on ?_ | refine v_og ?_ | refine v_q ?_ | refine v_sr ?_ | refine v_k ?_ | refine m_nil ?_)
      refine awp_loop (fun i : Nat => i ≤ ps.length) (fun i => [(6, .own 500), (25, .d (rows ps)), (26, .d (.int .i64 (List.map ints ps).length)), (27, .d (.int .i64 i))]) (fun i => [(500, .arr 2 1 ((ps.take i).flatten.map (.int .i64)))]) (fun i => ps.length - i) 0 (by omega) ?_ rfl ?_
      · ((repeat (first | exact trivial | (refine ⟨?_, ?_⟩; (focus (first | rfl | (simp [lk, argsS, args0]; done) | (simp [lk, argsS, args0]; omega)))))))
      · intro i hi
        have h1 := hfl i hi
        by_cases hlt : i < ps.length
        · have hx := el_row hlt
          have h2 := hfl (i + 1) hlt
          have hst : (ps.take (i + 1)).flatten = (ps.take i).flatten ++ ps[i] := by rw [List.take_succ_eq_append_getElem hlt, List.flatten_append]; simp
          rw [hst, List.length_append] at h2
          generalize ps[i] = w at *
          generalize (ps.take i).flatten = u at *
          repeat (first | refine awp_seq ?_ | refine then_n ?_ | refine then_r ?_ | refine then_x ?_ | refine block_n ?_ | refine block_r ?_ | refine block_x ?_ | refine u_y ?_ | refine loop_r ?_ | refine loop_x ?_ | refine awp_region ?_ | refine awpL_nil ?_ | refine awpQL_nil ?_ | refine awp_block ?_ | refine awp_skip ?_ | refine awp_exit ?_ | refine awp_label ?_ | refine u_dT ?_ | refine u_d ?_ | refine u_l ?_ | refine u_o ?_ | refine u_q ?_ | refine u_lr ?_ | refine u_qr ?_ | refine u_ls ?_ | refine u_qs ?_ | refine u_t ?_ | refine u_f ?_ | refine v_s ?_ | refine v_o ?_ | refine v_on ?_ | refine v_og ?_ | refine v_q ?_ | refine v_sr ?_ | refine v_k ?_ | refine m_nil ?_)
          refine awpL_to rfl (by apply wo_append; (iterate 14 exact rfl); exact elsOk_ints _; (simp; omega)) ?_
          repeat (first | refine awp_seq ?_ | refine then_n ?_ | refine then_r ?_ | refine then_x ?_ | refine block_n ?_ | refine block_r ?_ | refine block_x ?_ | refine u_y ?_ | refine loop_r ?_ | refine loop_x ?_ | refine awp_region ?_ | refine awpL_nil ?_ | refine awpQL_nil ?_ | refine awp_block ?_ | refine awp_skip ?_ | refine awp_exit ?_ | refine awp_label ?_ | refine u_dT ?_ | refine u_d ?_ | refine u_l ?_ | refine u_o ?_ | refine u_q ?_ | refine u_lr ?_ | refine u_qr ?_ | refine u_ls ?_ | refine u_qs ?_ | refine u_t ?_ | refine u_f ?_ | refine v_s ?_ | refine v_o ?_ | refine v_on ?_ | refine v_og ?_ | refine v_q ?_ | refine v_sr ?_ | refine v_k ?_ | refine m_nil ?_)
          refine loop_n (i + 1) (by omega) ?_ ?_ (by omega)
          · ((repeat (first | exact trivial | (refine ⟨?_, ?_⟩; (focus (first | rfl | (simp [lk, argsS, args0]; done) | (simp [lk, argsS, args0]; omega)))))))
          · rw [hst, List.map_append]; rfl
        · have hie : i = ps.length := by omega
          subst hie
          rw [List.take_length]
          repeat (first | refine awp_seq ?_ | refine then_n ?_ | refine then_r ?_ | refine then_x ?_ | refine block_n ?_ | refine block_r ?_ | refine block_x ?_ | refine u_y ?_ | refine loop_r ?_ | refine loop_x ?_ | refine awp_region ?_ | refine awpL_nil ?_ | refine awpQL_nil ?_ | refine awp_block ?_ | refine awp_skip ?_ | refine awp_exit ?_ | refine awp_label ?_ | refine u_dT ?_ | refine u_d ?_ | refine u_l ?_ | refine u_o ?_ | refine u_q ?_ | refine u_lr ?_ | refine u_qr ?_ | refine u_ls ?_ | refine u_qs ?_ | refine u_t ?_ | refine u_f ?_ | refine v_s ?_ | refine v_o ?_ | refine v_on ?_ | refine v_og ?_ | refine v_q ?_ | refine v_sr ?_ | refine v_k ?_ | refine m_nil ?_)
          (refine awp_ret ?_; (repeat (first | refine then_r ?_ | refine block_r ?_ | refine loop_r ?_)); refine u_rH [(500, 30000)] ?_ ?_)
          · rfl
          · rfl
theorem impl_joinWords {ps : List (List Int)} (hp : ps.length ≤ 100) (hl : ps.flatten.length ≤ 100000) : HC Try.prog 37 [.d (rows ps)] [] (.own 30000) [(30000, .arr 2 1 (ps.flatten.map (.int .i64)))] := by
  have e1 := slices_Concat hp hl
  refine hc_intro tabIs _ Try.func37 rfl rfl Try.ntmps37 rfl rfl rfl ?_ fun w0 ok0 XM XA anc => ?_
  · exact likeIn_nil
  repeat (first | refine awp_seq ?_ | refine then_n ?_ | refine then_r ?_ | refine then_x ?_ | refine block_n ?_ | refine block_r ?_ | refine block_x ?_ | refine u_y ?_ | refine loop_r ?_ | refine loop_x ?_ | refine awp_region ?_ | refine awpL_nil ?_ | refine awpQL_nil ?_ | refine awp_block ?_ | refine awp_skip ?_ | refine awp_exit ?_ | refine awp_label ?_ | refine u_dT ?_ | refine u_d ?_ | refine u_l ?_ | refine u_o ?_ | refine u_q ?_ | refine u_lr ?_ | refine u_qr ?_ | refine u_ls ?_ | refine u_qs ?_ | refine u_t ?_ | refine u_f ?_ | refine v_s ?_ | refine v_o ?_ | refine v_on ?_ | refine v_og ?_ | refine v_q ?_ | refine v_sr ?_ | refine v_k ?_ | refine m_nil ?_)
  refine hcl [] [(30000, 500)] e1 ?_
  repeat (first | refine awp_seq ?_ | refine then_n ?_ | refine then_r ?_ | refine then_x ?_ | refine block_n ?_ | refine block_r ?_ | refine block_x ?_ | refine u_y ?_ | refine loop_r ?_ | refine loop_x ?_ | refine awp_region ?_ | refine awpL_nil ?_ | refine awpQL_nil ?_ | refine awp_block ?_ | refine awp_skip ?_ | refine awp_exit ?_ | refine awp_label ?_ | refine u_dT ?_ | refine u_d ?_ | refine u_l ?_ | refine u_o ?_ | refine u_q ?_ | refine u_lr ?_ | refine u_qr ?_ | refine u_ls ?_ | refine u_qs ?_ | refine u_t ?_ | refine u_f ?_ | refine v_s ?_ | refine v_o ?_ | refine v_on ?_ | refine v_og ?_ | refine v_q ?_ | refine v_sr ?_ | refine v_k ?_ | refine m_nil ?_)
  (refine awp_ret ?_; (repeat (first | refine then_r ?_ | refine block_r ?_ | refine loop_r ?_)); refine u_rH [(500, 30000)] ?_ ?_)
  · rfl
  · rfl

/-! ### All words, the shorter ones first -/
def wN (n : Nat) : Nat → List Int
  | 0 => []
  | i + 1 => wN n (i / n) ++ [((i % n : Nat) : Int)]
termination_by i => i
decreasing_by exact Nat.lt_succ_of_le (Nat.div_le_self i n)
def gN (n : Nat) : Nat → Nat
  | 0 => 0
  | m + 1 => 1 + n * gN n m
def upN (n k : Nat) : List (List Int) := (List.range k).map (wN n)
theorem wN_zero (n : Nat) : wN n 0 = [] := by rw [wN]
theorem wN_succ (n i : Nat) : wN n (i + 1) = wN n (i / n) ++ [((i % n : Nat) : Int)] := by rw [wN]
theorem wN_next {n i l : Nat} (hl : l < n) : wN n (1 + n * i + l) = wN n i ++ [(l : Int)] := by
  rw [show 1 + n * i + l = (n * i + l) + 1 by omega, wN_succ, Nat.mul_add_div (by omega), Nat.div_eq_of_lt hl, Nat.mul_add_mod, Nat.mod_eq_of_lt hl, Nat.add_zero]
theorem wN_lt {n : Nat} (hn : 1 ≤ n) : ∀ (m i : Nat), (wN n i).length < m ↔ i < gN n m
  | 0, i => by simp [gN]
  | m + 1, 0 => by simp [gN, wN_zero]; omega
  | m + 1, j + 1 => by
    rw [wN_succ, List.length_append, List.length_singleton, Nat.add_lt_add_iff_right, wN_lt hn m (j / n), Nat.div_lt_iff_lt_mul hn]
    show _ ↔ j + 1 < 1 + n * gN n m
    rw [Nat.mul_comm]
    omega
theorem wN_el {n : Nat} (hn : 1 ≤ n) : ∀ (i : Nat), ∀ l ∈ wN n i, 0 ≤ l ∧ l < n := fun i => by
  induction i using Nat.strongRecOn with
  | _ i ih =>
    intro l hl
    cases i with
    | zero => rw [wN_zero] at hl; cases hl
    | succ j =>
      rw [wN_succ] at hl
      rcases List.mem_append.1 hl with hl | hl
      · exact ih (j / n) (Nat.lt_succ_of_le (Nat.div_le_self j n)) l hl
      · simp only [List.mem_singleton] at hl
        subst hl
        have := Nat.mod_lt j hn
        omega
theorem gN_le {n m : Nat} (hn : 1 ≤ n ∧ n ≤ 3) (hm : m ≤ 7) : gN n m ≤ 1093 := by
  have key : ∀ n, n < 4 → ∀ m, m < 8 → gN n m ≤ 1093 := by decide
  exact key n (by omega) m (by omega)

@[simp] theorem upN_length (n k : Nat) : (upN n k).length = k := by simp [upN]
theorem upN_succ (n k : Nat) : upN n (k + 1) = upN n k ++ [wN n k] := by simp [upN, List.range_succ]
theorem upN_get {n k i : Nat} (h : i < k) : (upN n k)[i]? = some (wN n i) := by simp [upN, h]
theorem rws_snoc (xs : List (List Int)) (w : List Int) : rws (xs ++ [w]) = rws xs ++ [w.map (.int .i64)] := by simp [rws]
theorem rws_get {xs : List (List Int)} {i : Nat} {w : List Int} (h : xs[i]? = some w) : (rws xs)[i]? = some (w.map (.int .i64)) := by simp [rws, h]
theorem rws_clo (xs : List (List Int)) : ∀ ys ∈ rws xs, ∀ y ∈ ys, y.clo = true := fun ys hys y hy => by
  simp only [rws, List.mem_map] at hys
  obtain ⟨w, -, rfl⟩ := hys
  obtain ⟨v, -, rfl⟩ := List.mem_map.1 hy
  rfl
theorem AC.le1 {P : Program} {f : Nat} {x y : D} {r : D} (h : AC P f [y] r) (hl : D.Le x y) : AC P f [x] r := h.le rfl fun i u v hu hv => by
  cases i with
  | zero => simp at hu hv; subst hu hv; exact hl
  | succ i => simp at hu
theorem tags_none {n : Nat} {bs : List (Option Nat)} {xs : List (List Int)} {i : Nat} {w : List Int} (T : Tags n bs (rws xs)) (hx : xs[i]? = some w) (hb : bs[i]? = some none) : w.map (D.int .i64) = [] := by
  have := T.emp i hb
  rw [rws_get hx] at this
  exact Option.some.inj this
theorem impl_upTo {s o : Int} {nx ou : List (List Int)} {m : Nat} (hn : 1 ≤ nx.length ∧ nx.length ≤ 3) (hm : m ≤ 6) :
    HC Try.prog 36 [.d (mach s o nx ou), .d (.int .i64 m)] [] (.own 30000) [(30000, .rows 42 2 1 (rws (upN nx.length (gN nx.length (m + 1)))) none)] := by
  have hG := gN_le hn (show m ≤ 7 by omega)
  have hG1 : gN nx.length (m + 1) = 1 + nx.length * gN nx.length m := rfl
  have hle : (List.map ints nx).length = nx.length := by simp
  have hw := fun i => wN_lt hn.1 m i
  rw [hG1]
  unfold mach
  refine hc_intro tabIs _ Try.func36 rfl rfl Try.ntmps36 rfl rfl rfl ?_ fun w0 ok0 XM XA anc => ?_
  · exact likeIn_nil
  repeat (first | refine v_w (t := 8) ?_ | refine awp_seq ?_ | refine then_n ?_ | refine then_r ?_ | refine then_x ?_ | refine block_n ?_ | refine block_r ?_ | refine block_x ?_ | refine u_y ?_ | refine loop_r ?_ | refine loop_x ?_ | refine awp_region ?_ | refine awpL_nil ?_ | refine awpQL_nil ?_ | refine awp_block ?_ | refine awp_skip ?_ | refine awp_exit ?_ | refine awp_label ?_ | refine u_dT ?_ | refine u_d ?_ | refine u_w (t := 8) ?_ | refine u_l ?_ | refine u_o ?_ | refine u_q ?_ | refine u_lr ?_ | refine u_qr ?_ | refine u_ls ?_ | refine u_qs ?_ | refine u_t ?_ | refine u_f ?_ | refine v_s ?_ | refine v_o ?_ | refine v_on ?_ | refine v_og ?_ | refine v_q ?_ | refine v_sr ?_ | refine v_k ?_ | refine m_nil ?_)
  refine awp_tag 9 rfl rfl fun bs0 T0 => ?_
  refine awp_loop (fun p : Nat × List (Option Nat) => p.1 ≤ gN nx.length m ∧ Tags w0.heap.size p.2 (rws (upN nx.length (1 + nx.length * p.1)))) (fun p => [(1, .d (.int .i64 m)), (2, .d (.ptr (.agg [.int .i64 s, .int .i64 o, rows nx, rows ou]))), (5, .own 9), (6, .d (.int .i64 p.1))])
    (fun p => [(9, .arr 42 1 (tagL 2 1 p.2 (rws (upN nx.length (1 + nx.length * p.1)))))]) (fun p => gN nx.length m - p.1) (0, bs0) ⟨Nat.zero_le _, by simpa [upN, rws, wN_zero] using T0⟩ ?_ ?_ ?_
  · ((repeat (first | exact trivial | (refine ⟨?_, ?_⟩; (focus (first | rfl | (simp [lk, argsS, args0]; done) | (simp [lk, argsS, args0]; omega)))))))
  · show _ = _
    simp only [Nat.mul_zero, Nat.add_zero]
    simp only [upN, rws, List.range_one, List.map_cons, List.map_nil, wN_zero]
    rfl
  · rintro ⟨i, bs⟩ ⟨hi, T⟩
    dsimp only at hi T ⊢
    have hlenT : (tagL 2 1 bs (rws (upN nx.length (1 + nx.length * i)))).length = 1 + nx.length * i := by rw [tagL_length T.len, rws_length, upN_length]
    have hni : nx.length * i ≤ nx.length * gN nx.length m := Nat.mul_le_mul_left _ hi
    have hi1 : i ≤ nx.length * i := Nat.le_mul_of_pos_left i hn.1
    have hnG : nx.length * gN nx.length m ≤ 3 * 1093 := Nat.mul_le_mul hn.2 (gN_le hn (by omega))
    have hgi : (upN nx.length (1 + nx.length * i))[i]? = some (wN nx.length i) := upN_get (by omega)
    have hbl := T.len
    rw [rws_length, upN_length] at hbl
    obtain ⟨b, hb⟩ : ∃ b, bs[i]? = some b := ⟨_, List.getElem?_eq_getElem (by omega)⟩
    have hx : (tagL 2 1 bs (rws (upN nx.length (1 + nx.length * i))))[i]? = some (tagD 2 1 b ((wN nx.length i).map (.int .i64))) := tagL_get hb (rws_get hgi)
    have hx' : (tagL 2 1 bs (rws (upN nx.length (1 + nx.length * i))))[(i : Int).toNat]? = some (tagD 2 1 b ((wN nx.length i).map (.int .i64))) := by rw [Int.toNat_natCast]; exact hx
    have hone : (tagD 2 1 b ((wN nx.length i).map (D.int .i64))).one = true := by cases b <;> rfl
    have hbn : b = none → (wN nx.length i).map (D.int .i64) = [] := fun hbn => tags_none T hgi (by rw [hb, hbn])
    have eS := AC.le1 (impl_size1 (ns := wN nx.length i)) (tagD_le (e := 2) (sz := 1) hbn)
    have hlt1 : (i : Int) < ((tagL 2 1 bs (rws (upN nx.length (1 + nx.length * i)))).length : Int) := by rw [hlenT]; omega
    have hwi := hw i
    by_cases hlt : i < gN nx.length m
    · have hwl := hwi.2 hlt
      repeat (first | refine awp_seq ?_ | refine then_n ?_ | refine then_r ?_ | refine then_x ?_ | refine block_n ?_ | refine block_r ?_ | refine block_x ?_ | refine u_y ?_ | refine loop_r ?_ | refine loop_x ?_ | refine awp_region ?_ | refine awpL_nil ?_ | refine awpQL_nil ?_ | refine awp_block ?_ | refine awp_skip ?_ | refine awp_exit ?_ | refine awp_label ?_ | refine u_dT ?_ | refine u_d ?_ | refine u_l ?_ | refine u_o ?_ | refine u_q ?_ | refine u_lr ?_ | refine u_qr ?_ | refine u_ls ?_ | refine u_qs ?_ | refine u_t ?_ | refine u_f ?_ | refine v_s ?_ | refine v_o ?_ | refine v_on ?_ | refine v_og ?_ | refine v_q ?_ | refine v_sr ?_ | refine v_k ?_ | refine m_nil ?_)
      rw [decide_eq_true hlt1]
      repeat (first | refine awp_seq ?_ | refine then_n ?_ | refine then_r ?_ | refine then_x ?_ | refine block_n ?_ | refine block_r ?_ | refine block_x ?_ | refine u_y ?_ | refine loop_r ?_ | refine loop_x ?_ | refine awp_region ?_ | refine awpL_nil ?_ | refine awpQL_nil ?_ | refine awp_block ?_ | refine awp_skip ?_ | refine awp_exit ?_ | refine awp_label ?_ | refine u_dT ?_ | refine u_d ?_ | ((first | apply x_l | apply x_q | apply x_lr | apply x_qr); (focus (first | (apply wa_loadElt; (iterate 6 (focus (first | exact rfl | (first | assumption | omega | (simp; omega) | (simp; done) | rfl))))))); exact rfl) | ((first | apply c_l | apply c_q | apply c_lr | apply c_qr); (iterate 2 exact rfl); (focus (first | exact eS)); (iterate 2 exact rfl)) | (apply v_x; (iterate 2 exact rfl); (focus (intro ok0 nw hle; (first | (apply wa_loadElt; (iterate 6 (focus (first | exact rfl | (first | assumption | omega | (simp; omega) | (simp; done) | rfl)))))))); (iterate 2 exact rfl)) | (apply v_c; (iterate 4 exact rfl); (focus (first | exact eS)); (iterate 2 exact rfl)) | refine u_l ?_ | refine u_o ?_ | refine u_q ?_ | refine u_lr ?_ | refine u_qr ?_ | refine u_ls ?_ | refine u_qs ?_ | refine u_t ?_ | refine u_f ?_ | refine v_s ?_ | refine v_o ?_ | refine v_on ?_ | refine v_og ?_ | refine v_q ?_ | refine v_sr ?_ | refine v_k ?_ | refine m_nil ?_)
      refine awp_loop (fun q : Nat × List (Option Nat) => q.1 ≤ nx.length ∧ Tags w0.heap.size q.2 (rws (upN nx.length (1 + nx.length * i + q.1)))) (fun q => [(1, .d (.int .i64 m)), (2, .d (.ptr (.agg [.int .i64 s, .int .i64 o, rows nx, rows ou]))), (5, .own 9), (6, .d (.int .i64 i)), (27, .d (.int .i64 (List.map ints nx).length)), (28, .d (.int .i64 q.1))])
        (fun q => [(9, .arr 42 1 (tagL 2 1 q.2 (rws (upN nx.length (1 + nx.length * i + q.1)))))]) (fun q => nx.length - q.1) (0, bs) ⟨Nat.zero_le _, T⟩ ?_ rfl ?_
      · ((repeat (first | exact trivial | (refine ⟨?_, ?_⟩; (focus (first | rfl | (simp [lk, argsS, args0]; done) | (simp [lk, argsS, args0]; omega)))))))
      · rintro ⟨l, cs⟩ ⟨hl, T2⟩
        dsimp only at hl T2 ⊢
        have hgi2 : (upN nx.length (1 + nx.length * i + l))[i]? = some (wN nx.length i) := upN_get (by omega)
        have hbl2 := T2.len
        rw [rws_length, upN_length] at hbl2
        obtain ⟨b2, hb2⟩ : ∃ b, cs[i]? = some b := ⟨_, List.getElem?_eq_getElem (by omega)⟩
        have hx2 : (tagL 2 1 cs (rws (upN nx.length (1 + nx.length * i + l))))[(i : Int).toNat]? = some (tagD 2 1 b2 ((wN nx.length i).map (.int .i64))) := by rw [Int.toNat_natCast]; exact tagL_get hb2 (rws_get hgi2)
        have hone2 : (tagD 2 1 b2 ((wN nx.length i).map (D.int .i64))).one = true := by cases b2 <;> rfl
        have hbn2 : b2 = none → (wN nx.length i).map (D.int .i64) = [] := fun hbn => tags_none T2 hgi2 (by rw [hb2, hbn])
        have hlen2 : (tagL 2 1 cs (rws (upN nx.length (1 + nx.length * i + l)))).length = 1 + nx.length * i + l := by rw [tagL_length T2.len, rws_length, upN_length]
        by_cases hll : l < nx.length
        · have hw1 : wN nx.length (1 + nx.length * i + l) = wN nx.length i ++ [(l : Int)] := wN_next hll
          have eJ := impl_joinWords (ps := [wN nx.length i, [(l : Int)]]) (by simp) (by simp; omega)
          rw [show [wN nx.length i, [(l : Int)]].flatten = wN nx.length (1 + nx.length * i + l) by rw [hw1]; simp] at eJ
          have hel2 : elsOk 1 [tagD 2 1 b2 ((wN nx.length i).map (D.int .i64)), .lst [.int .i64 l]] = true := by cases b2 <;> rfl
          have hLe : D.Le (.lst [tagD 2 1 b2 ((wN nx.length i).map (D.int .i64)), .lst [.int .i64 l]]) (rows [wN nx.length i, [(l : Int)]]) := .lst _ _ rfl fun k x y hx hy => by
            match k with
            | 0 => simp at hx hy; subst hx hy; exact tagD_le hbn2
            | 1 => simp at hx hy; subst hx hy; exact .refl _
            | k + 2 => simp at hx
          have hst : upN nx.length (1 + nx.length * i + (l + 1)) = upN nx.length (1 + nx.length * i + l) ++ [wN nx.length (1 + nx.length * i + l)] := upN_succ _ _
          generalize wN nx.length (1 + nx.length * i + l) = w at *
          repeat (first | refine awp_seq ?_ | refine then_n ?_ | refine then_r ?_ | refine then_x ?_ | refine block_n ?_ | refine block_r ?_ | refine block_x ?_ | refine u_y ?_ | refine loop_r ?_ | refine loop_x ?_ | refine awp_region ?_ | refine awpL_nil ?_ | refine awpQL_nil ?_ | refine awp_block ?_ | refine awp_skip ?_ | refine awp_exit ?_ | refine awp_label ?_ | refine u_dT ?_ | refine u_d ?_ | ((first | apply x_l | apply x_q | apply x_lr | apply x_qr); (focus (first | (apply wa_loadElt; (iterate 6 (focus (first | exact rfl | (first | assumption | omega | (simp; omega) | (simp; done) | rfl))))) | (apply wa_lit; (iterate 10 (focus (first | exact rfl | (first | assumption | omega | (simp; omega) | (simp; done) | rfl))))))); exact rfl) | (apply v_x; (iterate 2 exact rfl); (focus (intro ok0 nw hle; (first | (apply wa_loadElt; (iterate 6 (focus (first | exact rfl | (first | assumption | omega | (simp; omega) | (simp; done) | rfl))))) | (apply wa_lit; (iterate 10 (focus (first | exact rfl | (first | assumption | omega | (simp; omega) | (simp; done) | rfl)))))))); (iterate 2 exact rfl)) | refine u_l ?_ | refine u_o ?_ | refine u_q ?_ | refine u_lr ?_ | refine u_qr ?_ | refine u_ls ?_ | refine u_qs ?_ | refine u_t ?_ | refine u_f ?_ | refine v_s ?_ | refine v_o ?_ | refine v_on ?_ | refine v_og ?_ | refine v_q ?_ | refine v_sr ?_ | refine v_k ?_ | refine m_nil ?_)
          refine awpL_untag 38 rfl hLe ?_
          refine hcl [] [(30000, 500)] eJ ?_
          refine awpL_tagPush 500 9 T2 rfl rfl rfl fun ob T3 => ?_
          have helo : elsOk 1 [tagD 2 1 ob (w.map (D.int .i64))] = true := elsOk_tag
          repeat (first | refine awp_seq ?_ | refine then_n ?_ | refine then_r ?_ | refine then_x ?_ | refine block_n ?_ | refine block_r ?_ | refine block_x ?_ | refine u_y ?_ | refine loop_r ?_ | refine loop_x ?_ | refine awp_region ?_ | refine awpL_nil ?_ | refine awpQL_nil ?_ | refine awp_block ?_ | refine awp_skip ?_ | refine awp_exit ?_ | refine awp_label ?_ | refine u_dT ?_ | refine u_d ?_ | ((first | apply x_l | apply x_q | apply x_lr | apply x_qr); (focus (first | (apply wa_lit; (iterate 10 (focus (first | exact rfl | (first | assumption | omega | (simp; omega) | (simp; done) | rfl))))))); exact rfl) | (apply v_x; (iterate 2 exact rfl); (focus (intro ok0 nw hle; (first | (apply wa_lit; (iterate 10 (focus (first | exact rfl | (first | assumption | omega | (simp; omega) | (simp; done) | rfl)))))))); (iterate 2 exact rfl)) | refine u_l ?_ | refine u_o ?_ | refine u_q ?_ | refine u_lr ?_ | refine u_qr ?_ | refine u_ls ?_ | refine u_qs ?_ | refine u_t ?_ | refine u_f ?_ | refine v_s ?_ | refine v_o ?_ | refine v_on ?_ | refine v_og ?_ | refine v_q ?_ | refine v_sr ?_ | refine v_k ?_ | refine m_nil ?_)
          refine awpL_to rfl (by apply wo_append; (iterate 14 exact rfl); exact elsOk_tag; (simp only [hlen2, List.length_singleton]; omega)) ?_
          repeat (first | refine awp_seq ?_ | refine then_n ?_ | refine then_r ?_ | refine then_x ?_ | refine block_n ?_ | refine block_r ?_ | refine block_x ?_ | refine u_y ?_ | refine loop_r ?_ | refine loop_x ?_ | refine awp_region ?_ | refine awpL_nil ?_ | refine awpQL_nil ?_ | refine awp_block ?_ | refine awp_skip ?_ | refine awp_exit ?_ | refine awp_label ?_ | refine u_dT ?_ | refine u_d ?_ | refine u_l ?_ | refine u_o ?_ | refine u_q ?_ | refine u_lr ?_ | refine u_qr ?_ | refine u_ls ?_ | refine u_qs ?_ | refine u_t ?_ | refine u_f ?_ | refine v_s ?_ | refine v_o ?_ | refine v_on ?_ | refine v_og ?_ | refine v_q ?_ | refine v_sr ?_ | refine v_k ?_ | refine m_nil ?_)
          refine loop_n (l + 1, cs ++ [ob]) ⟨by show l + 1 ≤ _; omega, by rw [hst, rws_snoc]; exact T3⟩ ?_ ?_ (by show _ - (l + 1) < _ - l; omega)
          · ((repeat (first | exact trivial | (refine ⟨?_, ?_⟩; (focus (first | rfl | (simp [lk, argsS, args0]; done) | (simp [lk, argsS, args0]; omega)))))))
          · show [_] = _
            rw [hst, rws_snoc, tagL_snoc T2.len]
            rfl
        · have hln : l = nx.length := by omega
          subst hln
          have hst : 1 + nx.length * (i + 1) = 1 + nx.length * i + nx.length := by rw [Nat.mul_succ]; omega
          repeat (first | refine awp_seq ?_ | refine then_n ?_ | refine then_r ?_ | refine then_x ?_ | refine block_n ?_ | refine block_r ?_ | refine block_x ?_ | refine u_y ?_ | refine loop_r ?_ | refine loop_x ?_ | refine awp_region ?_ | refine awpL_nil ?_ | refine awpQL_nil ?_ | refine awp_block ?_ | refine awp_skip ?_ | refine awp_exit ?_ | refine awp_label ?_ | refine u_dT ?_ | refine u_d ?_ | refine u_l ?_ | refine u_o ?_ | refine u_q ?_ | refine u_lr ?_ | refine u_qr ?_ | refine u_ls ?_ | refine u_qs ?_ | refine u_t ?_ | refine u_f ?_ | refine v_s ?_ | refine v_o ?_ | refine v_on ?_ | refine v_og ?_ | refine v_q ?_ | refine v_sr ?_ | refine v_k ?_ | refine m_nil ?_)
          refine loop_n (i + 1, cs) ⟨by show i + 1 ≤ _; omega, by rw [hst]; exact T2⟩ ?_ ?_ (by show _ - (i + 1) < _ - i; omega)
          · ((repeat (first | exact trivial | (refine ⟨?_, ?_⟩; (focus (first | rfl | (simp [lk, argsS, args0]; done) | (simp [lk, argsS, args0]; omega)))))))
          · show [_] = _
            rw [hst]
    · have hie : i = gN nx.length m := by omega
      subst hie
      have hwl : ¬ ((wN nx.length (gN nx.length m)).length < m) := fun h => hlt (hwi.1 h)
      repeat (first | refine awp_seq ?_ | refine then_n ?_ | refine then_r ?_ | refine then_x ?_ | refine block_n ?_ | refine block_r ?_ | refine block_x ?_ | refine u_y ?_ | refine loop_r ?_ | refine loop_x ?_ | refine awp_region ?_ | refine awpL_nil ?_ | refine awpQL_nil ?_ | refine awp_block ?_ | refine awp_skip ?_ | refine awp_exit ?_ | refine awp_label ?_ | refine u_dT ?_ | refine u_d ?_ | refine u_l ?_ | refine u_o ?_ | refine u_q ?_ | refine u_lr ?_ | refine u_qr ?_ | refine u_ls ?_ | refine u_qs ?_ | refine u_t ?_ | refine u_f ?_ | refine v_s ?_ | refine v_o ?_ | refine v_on ?_ | refine v_og ?_ | refine v_q ?_ | refine v_sr ?_ | refine v_k ?_ | refine m_nil ?_)
      rw [decide_eq_true hlt1]
      repeat (first | refine awp_seq ?_ | refine then_n ?_ | refine then_r ?_ | refine then_x ?_ | refine block_n ?_ | refine block_r ?_ | refine block_x ?_ | refine u_y ?_ | refine loop_r ?_ | refine loop_x ?_ | refine awp_region ?_ | refine awpL_nil ?_ | refine awpQL_nil ?_ | refine awp_block ?_ | refine awp_skip ?_ | refine awp_exit ?_ | refine awp_label ?_ | refine u_dT ?_ | refine u_d ?_ | ((first | apply x_l | apply x_q | apply x_lr | apply x_qr); (focus (first | (apply wa_loadElt; (iterate 6 (focus (first | exact rfl | (first | assumption | omega | (simp; omega) | (simp; done) | rfl))))))); exact rfl) | ((first | apply c_l | apply c_q | apply c_lr | apply c_qr); (iterate 2 exact rfl); (focus (first | exact eS)); (iterate 2 exact rfl)) | (apply v_x; (iterate 2 exact rfl); (focus (intro ok0 nw hle; (first | (apply wa_loadElt; (iterate 6 (focus (first | exact rfl | (first | assumption | omega | (simp; omega) | (simp; done) | rfl)))))))); (iterate 2 exact rfl)) | (apply v_c; (iterate 4 exact rfl); (focus (first | exact eS)); (iterate 2 exact rfl)) | refine u_l ?_ | refine u_o ?_ | refine u_q ?_ | refine u_lr ?_ | refine u_qr ?_ | refine u_ls ?_ | refine u_qs ?_ | refine u_t ?_ | refine u_f ?_ | refine v_s ?_ | refine v_o ?_ | refine v_on ?_ | refine v_og ?_ | refine v_q ?_ | refine v_sr ?_ | refine v_k ?_ | refine m_nil ?_)
      refine awp_thawRows 4 9 rfl rfl T rfl (rws_clo _) rfl ?_
      (refine awp_ret ?_; (repeat (first | refine then_r ?_ | refine block_r ?_ | refine loop_r ?_)); refine u_rH [(9, 30000)] ?_ ?_)
      · rfl
      · rfl

end Go.Proofs.Ytfemhnmggobhjaa

/-! Elements that are deleted from a row. No condition. -/
namespace Go.Proofs.Ytfemhnmggobhjaa
open Go
attribute [local irreducible] awp awpL awpQL awpQ awpM pWalk Qt AC thenQ blockQ loopQ OpTo
set_option linter.unusedVariables false
set_option linter.unusedSimpArgs false
set_option maxHeartbeats 2000000
attribute [local irreducible] HC

section
variable {α : Type}
end
end Go.Proofs.Ytfemhnmggobhjaa

/-! BestWord, in the reference and in the program. No condition. -/
namespace Go.Proofs.Ytfemhnmggobhjaa
open Go
attribute [local irreducible] awp awpL awpQL awpQ awpM pWalk Qt AC thenQ blockQ loopQ OpTo
set_option linter.unusedVariables false
set_option linter.unusedSimpArgs false
set_option maxHeartbeats 2000000
attribute [local irreducible] HC

/-! ### What BestWord answers -/
end Go.Proofs.Ytfemhnmggobhjaa
