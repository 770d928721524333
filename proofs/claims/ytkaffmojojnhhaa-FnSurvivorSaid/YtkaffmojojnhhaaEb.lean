/- Machines by their numbers: how many there are, their tables; the machine with a number in the reference. No condition. -/
import Derived.Test.YtkaffmojojnhhaaCa
import Derived.Test.YtkaffmojojnhhaaTa
namespace Go.Proofs.Ytkaffmojojnhhaa
open Go
attribute [local irreducible] awp awpL awpQL awpQ awpM pWalk Qt AC thenQ blockQ loopQ OpTo
set_option linter.unusedVariables false
set_option linter.unusedSimpArgs false
set_option maxHeartbeats 2000000
attribute [local irreducible] HC

/-! ### How many -/
def capC (q : Int) : Nat → Int
  | 0 => 1
  | i + 1 => if capC q i ≤ 50000 then capC q i * q else capC q i
theorem capC_range {q : Int} (h : 1 ≤ q ∧ q ≤ 30) : ∀ i, 1 ≤ capC q i ∧ capC q i ≤ 1500000
  | 0 => by simp [capC]
  | i + 1 => by
    have ih := capC_range h i
    unfold capC
    split
    · rename_i hc
      have h1 : 1 * 1 ≤ capC q i * q := Int.mul_le_mul ih.1 h.1 (by omega) (by omega)
      have h2 : capC q i * q ≤ 50000 * 30 := Int.mul_le_mul hc h.2 (by omega) (by omega)
      omega
    · exact ih
theorem capC_stop {q : Int} {i : Nat} (h : ¬ capC q i ≤ 50000) : ∀ d, capC q (i + d) = capC q i
  | 0 => rfl
  | d + 1 => by
    have ih := capC_stop h d
    show (if capC q (i + d) ≤ 50000 then capC q (i + d) * q else capC q (i + d)) = _
    rw [ih, if_neg h]
/-- How many machines with so many states there are; more than 50000 stand for all greater numbers. -/
def cntM (n o : Int) (L : Nat) : Int := capC (n * o) (n * L).toNat
theorem no_range {n o : Int} (hn : 1 ≤ n ∧ n ≤ 10) (ho : 1 ≤ o ∧ o ≤ 3) : 1 ≤ n * o ∧ n * o ≤ 30 := by
  have h1 : 1 * 1 ≤ n * o := Int.mul_le_mul hn.1 ho.1 (by omega) (by omega)
  have h2 : n * o ≤ 10 * 3 := Int.mul_le_mul hn.2 ho.2 (by omega) (by omega)
  omega

section
variable {s o : Int} {nx ou : List (List Int)}
theorem spec_l07Machines (m : MV s o nx ou) {n : Int} (hn : 1 ≤ n ∧ n ≤ 10) : AC Try.prog 72 [.ptr (mach s o nx ou), .int .i64 n] (.int .i64 (cntM n o nx.length)) := by
  have ho := m.o1
  have hL := m.n1
  have hle : (List.map ints nx).length = nx.length := by simp
  have hno := no_range hn ho
  have hnl := no_range hn (o := (nx.length : Int)) (by omega)
  have hnl2 : 1 ≤ n * ((List.map ints nx).length : Int) ∧ n * ((List.map ints nx).length : Int) ≤ 30 := by rw [hle]; exact hnl
  unfold cntM
  rw [← hle]
  generalize hN : n * ((List.map ints nx).length : Int) = N at *
  generalize hq : n * o = q at *
  refine ac_intro tabIs _ Try.func72 rfl rfl Try.ntmps72 rfl rfl fun w0 ok0 => ?_
  repeat (first | refine awp_seq ?_ | refine then_n ?_ | refine then_r ?_ | refine then_x ?_ | refine block_n ?_ | refine block_r ?_ | refine block_x ?_ | refine u_y ?_ | refine loop_r ?_ | refine loop_x ?_ | refine awp_region ?_ | refine awpL_nil ?_ | refine awpQL_nil ?_ | refine awp_block ?_ | refine awp_skip ?_ | refine awp_exit ?_ | refine awp_label ?_ | refine u_dT ?_ | refine u_d ?_ | refine u_l ?_ | refine u_o ?_ | refine u_q ?_ | refine u_lr ?_ | refine u_qr ?_ | refine u_ls ?_ | refine u_qs ?_ | refine u_t ?_ | refine u_f ?_ | refine v_s ?_ | refine v_o ?_ | refine v_on ?_ | refine v_og ?_ | refine v_q ?_ | refine v_sr ?_ | refine v_k ?_ | refine m_nil ?_)
  refine awp_loop (fun i : Nat => (i : Int) ≤ N) (fun i => [(0, .d (.ptr (mach s o nx ou))), (1, .d (.int .i64 n)), (5, .d (.int .i64 (capC q i))), (6, .d (.int .i64 i))]) (fun _ => []) (fun i => N.toNat - i) 0 (by omega) ?_ rfl ?_
  · ((repeat (first | exact trivial | (refine ⟨?_, ?_⟩; (focus (first | rfl | (simp [lk, argsS, args0]; done) | (simp [lk, argsS, args0]; omega)))))))
  · intro i hi
    have hcr := capC_range hno i
    have hcr2 := capC_range hno (i + 1)
    have hst : capC q (i + 1) = if capC q i ≤ 50000 then capC q i * q else capC q i := rfl
    have hsp := capC_stop (q := q) (i := i)
    by_cases hlt : (i : Int) < N
    · by_cases hc : capC q i ≤ 50000
      · rw [if_pos hc] at hst
        have hst' : capC q (i + 1) = capC q i * (n * o) := by rw [hst, hq]
        have hmul : 1 ≤ capC q i * (n * o) ∧ capC q i * (n * o) ≤ 1500000 := by rw [← hst']; exact hcr2
        repeat (first | refine awp_seq ?_ | refine then_n ?_ | refine then_r ?_ | refine then_x ?_ | refine block_n ?_ | refine block_r ?_ | refine block_x ?_ | refine u_y ?_ | refine loop_r ?_ | refine loop_x ?_ | refine awp_region ?_ | refine awpL_nil ?_ | refine awpQL_nil ?_ | refine awp_block ?_ | refine awp_skip ?_ | refine awp_exit ?_ | refine awp_label ?_ | refine u_dT ?_ | refine u_d ?_ | refine u_l ?_ | refine u_o ?_ | refine u_q ?_ | refine u_lr ?_ | refine u_qr ?_ | refine u_ls ?_ | refine u_qs ?_ | refine u_t ?_ | refine u_f ?_ | refine v_s ?_ | refine v_o ?_ | refine v_on ?_ | refine v_og ?_ | refine v_q ?_ | refine v_sr ?_ | refine v_k ?_ | refine m_nil ?_)
        refine u_sl ?_ ?_
        rotate_left
        · intro hb; exact absurd hb (by rw [hN]; simp; omega)
        intro _
        repeat (first | refine awp_seq ?_ | refine then_n ?_ | refine then_r ?_ | refine then_x ?_ | refine block_n ?_ | refine block_r ?_ | refine block_x ?_ | refine u_y ?_ | refine loop_r ?_ | refine loop_x ?_ | refine awp_region ?_ | refine awpL_nil ?_ | refine awpQL_nil ?_ | refine awp_block ?_ | refine awp_skip ?_ | refine awp_exit ?_ | refine awp_label ?_ | refine u_dT ?_ | refine u_d ?_ | refine u_l ?_ | refine u_o ?_ | refine u_q ?_ | refine u_lr ?_ | refine u_qr ?_ | refine u_ls ?_ | refine u_qs ?_ | refine u_t ?_ | refine u_f ?_ | refine v_s ?_ | refine v_o ?_ | refine v_on ?_ | refine v_og ?_ | refine v_q ?_ | refine v_sr ?_ | refine v_k ?_ | refine m_nil ?_)
        refine loop_n (i + 1) (by omega) ?_ rfl (by omega)
        rw [hst']
        ((repeat (first | exact trivial | (refine ⟨?_, ?_⟩; (focus (first | rfl | (simp [lk, argsS, args0]; done) | (simp [lk, argsS, args0]; omega)))))))
      · have hend : capC q N.toNat = capC q i := by
          have := hsp hc (N.toNat - i)
          rwa [show i + (N.toNat - i) = N.toNat by omega] at this
        repeat (first | refine awp_seq ?_ | refine then_n ?_ | refine then_r ?_ | refine then_x ?_ | refine block_n ?_ | refine block_r ?_ | refine block_x ?_ | refine u_y ?_ | refine loop_r ?_ | refine loop_x ?_ | refine awp_region ?_ | refine awpL_nil ?_ | refine awpQL_nil ?_ | refine awp_block ?_ | refine awp_skip ?_ | refine awp_exit ?_ | refine awp_label ?_ | refine u_dT ?_ | refine u_d ?_ | refine u_l ?_ | refine u_o ?_ | refine u_q ?_ | refine u_lr ?_ | refine u_qr ?_ | refine u_ls ?_ | refine u_qs ?_ | refine u_t ?_ | refine u_f ?_ | refine v_s ?_ | refine v_o ?_ | refine v_on ?_ | refine v_og ?_ | refine v_q ?_ | refine v_sr ?_ | refine v_k ?_ | refine m_nil ?_)
        refine u_sl ?_ ?_
        rotate_left
        · intro hb; exact absurd hb (by rw [hN]; simp; omega)
        intro _
        repeat (first | refine awp_seq ?_ | refine then_n ?_ | refine then_r ?_ | refine then_x ?_ | refine block_n ?_ | refine block_r ?_ | refine block_x ?_ | refine u_y ?_ | refine loop_r ?_ | refine loop_x ?_ | refine awp_region ?_ | refine awpL_nil ?_ | refine awpQL_nil ?_ | refine awp_block ?_ | refine awp_skip ?_ | refine awp_exit ?_ | refine awp_label ?_ | refine u_dT ?_ | refine u_d ?_ | refine u_l ?_ | refine u_o ?_ | refine u_q ?_ | refine u_lr ?_ | refine u_qr ?_ | refine u_ls ?_ | refine u_qs ?_ | refine u_t ?_ | refine u_f ?_ | refine v_s ?_ | refine v_o ?_ | refine v_on ?_ | refine v_og ?_ | refine v_q ?_ | refine v_sr ?_ | refine v_k ?_ | refine m_nil ?_)
        (refine awp_ret ?_; (repeat (first | refine then_r ?_ | refine block_r ?_ | refine loop_r ?_)); apply ret_ok (.inr rfl); (focus exact rfl))
        rw [hend]
    · have hi' : i = N.toNat := by omega
      subst hi'
      repeat (first | refine awp_seq ?_ | refine then_n ?_ | refine then_r ?_ | refine then_x ?_ | refine block_n ?_ | refine block_r ?_ | refine block_x ?_ | refine u_y ?_ | refine loop_r ?_ | refine loop_x ?_ | refine awp_region ?_ | refine awpL_nil ?_ | refine awpQL_nil ?_ | refine awp_block ?_ | refine awp_skip ?_ | refine awp_exit ?_ | refine awp_label ?_ | refine u_dT ?_ | refine u_d ?_ | refine u_l ?_ | refine u_o ?_ | refine u_q ?_ | refine u_lr ?_ | refine u_qr ?_ | refine u_ls ?_ | refine u_qs ?_ | refine u_t ?_ | refine u_f ?_ | refine v_s ?_ | refine v_o ?_ | refine v_on ?_ | refine v_og ?_ | refine v_q ?_ | refine v_sr ?_ | refine v_k ?_ | refine m_nil ?_)
      refine u_sl ?_ ?_
      · intro hb; exact absurd hb (by rw [hN]; simp; omega)
      intro _
      repeat (first | refine awp_seq ?_ | refine then_n ?_ | refine then_r ?_ | refine then_x ?_ | refine block_n ?_ | refine block_r ?_ | refine block_x ?_ | refine u_y ?_ | refine loop_r ?_ | refine loop_x ?_ | refine awp_region ?_ | refine awpL_nil ?_ | refine awpQL_nil ?_ | refine awp_block ?_ | refine awp_skip ?_ | refine awp_exit ?_ | refine awp_label ?_ | refine u_dT ?_ | refine u_d ?_ | refine u_l ?_ | refine u_o ?_ | refine u_q ?_ | refine u_lr ?_ | refine u_qr ?_ | refine u_ls ?_ | refine u_qs ?_ | refine u_t ?_ | refine u_f ?_ | refine v_s ?_ | refine v_o ?_ | refine v_on ?_ | refine v_og ?_ | refine v_q ?_ | refine v_sr ?_ | refine v_k ?_ | refine m_nil ?_)
      (refine awp_ret ?_; (repeat (first | refine then_r ?_ | refine block_r ?_ | refine loop_r ?_)); apply ret_ok (.inr rfl); (focus exact rfl))
      rfl

theorem impl_count (m : MV s o nx ou) {n : Int} (hn : 1 ≤ n ∧ n ≤ 10) : AC Try.prog 67 [.int .i64 n, .ptr (mach s o nx ou)] (.int .i64 (cntM n o nx.length)) := by
  have ho := m.o1
  have hL := m.n1
  have e1 := impl_size2 (nss := nx)
  have hno := no_range hn ho
  have hnl2 := no_range hn (o := (nx.length : Int)) (by omega)
  unfold cntM
  generalize hN : n * (nx.length : Int) = N at *
  generalize hq : n * o = q at *
  have hN2 : n * (nx.length : Int) ≤ 30 ∧ 1 ≤ n * (nx.length : Int) := by rw [hN]; omega
  refine ac_intro tabIs _ Try.func67 rfl rfl Try.ntmps67 rfl rfl fun w0 ok0 => ?_
  repeat (first | refine awp_seq ?_ | refine then_n ?_ | refine then_r ?_ | refine then_x ?_ | refine block_n ?_ | refine block_r ?_ | refine block_x ?_ | refine u_y ?_ | refine loop_r ?_ | refine loop_x ?_ | refine awp_region ?_ | refine awpL_nil ?_ | refine awpQL_nil ?_ | refine awp_block ?_ | refine awp_skip ?_ | refine awp_exit ?_ | refine awp_label ?_ | refine u_dT ?_ | refine u_d ?_ | ((first | apply c_l | apply c_q | apply c_lr | apply c_qr); (iterate 2 exact rfl); (focus (first | exact e1)); (iterate 2 exact rfl)) | (apply v_c; (iterate 4 exact rfl); (focus (first | exact e1)); (iterate 2 exact rfl)) | refine u_l ?_ | refine u_o ?_ | refine u_q ?_ | refine u_lr ?_ | refine u_qr ?_ | refine u_ls ?_ | refine u_qs ?_ | refine u_t ?_ | refine u_f ?_ | refine v_s ?_ | refine v_o ?_ | refine v_on ?_ | refine v_og ?_ | refine v_q ?_ | refine v_sr ?_ | refine v_k ?_ | refine m_nil ?_)
  refine awp_loop (fun i : Nat => (i : Int) ≤ N ∧ ∀ j, j < i → capC q (j + 1) ≤ 50000) (fun i => [(0, .d (.int .i64 n)), (1, .d (.ptr (mach s o nx ou))), (4, .d (.int .i64 (capC q i))), (9, .d (.int .i64 (n * (nx.length : Int)))), (10, .d (.int .i64 i))]) (fun _ => []) (fun i => N.toNat - i) 0 (by exact ⟨by omega, fun j h => by omega⟩) ?_ rfl ?_
  · ((repeat (first | exact trivial | (refine ⟨?_, ?_⟩; (focus (first | rfl | (simp [lk, argsS, args0]; done) | (simp [lk, argsS, args0]; omega)))))))
  · rintro i ⟨hi, hb⟩
    have hcr := capC_range hno i
    have hcr2 := capC_range hno (i + 1)
    have hst : capC q (i + 1) = if capC q i ≤ 50000 then capC q i * q else capC q i := rfl
    have hsp := capC_stop (q := q) (i := i + 1)
    have hc : capC q i ≤ 50000 := by
      cases i with
      | zero => simp [capC]
      | succ i => exact hb i (by omega)
    rw [if_pos hc] at hst
    have hst' : capC q (i + 1) = capC q i * (n * o) := by rw [hst, hq]
    have hmul : 1 ≤ capC q i * (n * o) ∧ capC q i * (n * o) ≤ 1500000 := by rw [← hst']; exact hcr2
    by_cases hlt : (i : Int) < N
    · by_cases hc2 : capC q (i + 1) ≤ 50000
      · rw [hst'] at hc2
        repeat (first | refine awp_seq ?_ | refine then_n ?_ | refine then_r ?_ | refine then_x ?_ | refine block_n ?_ | refine block_r ?_ | refine block_x ?_ | refine u_y ?_ | refine loop_r ?_ | refine loop_x ?_ | refine awp_region ?_ | refine awpL_nil ?_ | refine awpQL_nil ?_ | refine awp_block ?_ | refine awp_skip ?_ | refine awp_exit ?_ | refine awp_label ?_ | refine u_dT ?_ | refine u_d ?_ | refine u_l ?_ | refine u_o ?_ | refine u_q ?_ | refine u_lr ?_ | refine u_qr ?_ | refine u_ls ?_ | refine u_qs ?_ | refine u_t ?_ | refine u_f ?_ | refine v_s ?_ | refine v_o ?_ | refine v_on ?_ | refine v_og ?_ | refine v_q ?_ | refine v_sr ?_ | refine v_k ?_ | refine m_nil ?_)
        refine loop_n (i + 1) ⟨by omega, fun j hj => ?_⟩ ?_ rfl (by omega)
        · by_cases e : j = i
          · subst e; rw [hst']; exact hc2
          · exact hb j (by omega)
        · rw [hst']
          ((repeat (first | exact trivial | (refine ⟨?_, ?_⟩; (focus (first | rfl | (simp [lk, argsS, args0]; done) | (simp [lk, argsS, args0]; omega)))))))
      · have hend : capC q N.toNat = capC q (i + 1) := by
          have := hsp hc2 (N.toNat - (i + 1))
          rwa [show i + 1 + (N.toNat - (i + 1)) = N.toNat by omega] at this
        rw [hst'] at hc2 hend
        repeat (first | refine awp_seq ?_ | refine then_n ?_ | refine then_r ?_ | refine then_x ?_ | refine block_n ?_ | refine block_r ?_ | refine block_x ?_ | refine u_y ?_ | refine loop_r ?_ | refine loop_x ?_ | refine awp_region ?_ | refine awpL_nil ?_ | refine awpQL_nil ?_ | refine awp_block ?_ | refine awp_skip ?_ | refine awp_exit ?_ | refine awp_label ?_ | refine u_dT ?_ | refine u_d ?_ | refine u_l ?_ | refine u_o ?_ | refine u_q ?_ | refine u_lr ?_ | refine u_qr ?_ | refine u_ls ?_ | refine u_qs ?_ | refine u_t ?_ | refine u_f ?_ | refine v_s ?_ | refine v_o ?_ | refine v_on ?_ | refine v_og ?_ | refine v_q ?_ | refine v_sr ?_ | refine v_k ?_ | refine m_nil ?_)
        (refine awp_ret ?_; (repeat (first | refine then_r ?_ | refine block_r ?_ | refine loop_r ?_)); apply ret_ok (.inr rfl); (focus exact rfl))
        rw [hend]
    · have hi' : i = N.toNat := by omega
      subst hi'
      repeat (first | refine awp_seq ?_ | refine then_n ?_ | refine then_r ?_ | refine then_x ?_ | refine block_n ?_ | refine block_r ?_ | refine block_x ?_ | refine u_y ?_ | refine loop_r ?_ | refine loop_x ?_ | refine awp_region ?_ | refine awpL_nil ?_ | refine awpQL_nil ?_ | refine awp_block ?_ | refine awp_skip ?_ | refine awp_exit ?_ | refine awp_label ?_ | refine u_dT ?_ | refine u_d ?_ | refine u_l ?_ | refine u_o ?_ | refine u_q ?_ | refine u_lr ?_ | refine u_qr ?_ | refine u_ls ?_ | refine u_qs ?_ | refine u_t ?_ | refine u_f ?_ | refine v_s ?_ | refine v_o ?_ | refine v_on ?_ | refine v_og ?_ | refine v_q ?_ | refine v_sr ?_ | refine v_k ?_ | refine m_nil ?_)
      (refine awp_ret ?_; (repeat (first | refine then_r ?_ | refine block_r ?_ | refine loop_r ?_)); apply ret_ok (.inr rfl); (focus exact rfl))
      rfl
end

/-! ### Its tables -/
def iterN (n o number : Int) : Nat → Int
  | 0 => number
  | t + 1 => iterN n o number t / o / n
theorem iterN_range {n o number : Int} (hn : 1 ≤ n) (ho : 1 ≤ o) (h : 0 ≤ number) : ∀ t, 0 ≤ iterN n o number t ∧ iterN n o number t ≤ number
  | 0 => ⟨h, Int.le_refl _⟩
  | t + 1 => by
    have ih := iterN_range hn ho h t
    unfold iterN
    have h1 : 0 ≤ iterN n o number t / o := Int.ediv_nonneg ih.1 (by omega)
    have h2 : iterN n o number t / o ≤ iterN n o number t := Int.ediv_le_self _ ih.1
    have h3 : 0 ≤ iterN n o number t / o / n := Int.ediv_nonneg h1 (by omega)
    have h4 : iterN n o number t / o / n ≤ iterN n o number t / o := Int.ediv_le_self _ h1
    omega
def vO (n o number : Int) (t : Nat) : Int := iterN n o number t % o
def vN (n o number : Int) (t : Nat) : Int := iterN n o number t / o % n
/-- Has the place behind a letters and b states, from behind, been filled? -/
def prcB (j i a b : Nat) : Bool := decide (a < j ∨ (a = j ∧ b < i))
def tabI (L n : Nat) (F : Nat → Nat → Int) : List (List Int) := (List.range L).map fun l => fnL n (F l)
/-- A table filled as far as j letters and i states, from behind. -/
def parT (L n : Nat) (V : Nat → Int) (j i : Nat) (l s : Nat) : Int := if prcB j i (L - 1 - l) (n - 1 - s) then V ((L - 1 - l) * n + (n - 1 - s)) else 0
def numT (L n : Nat) (V : Nat → Int) (l s : Nat) : Int := V ((L - 1 - l) * n + (n - 1 - s))


@[simp] theorem tabI_length {L n : Nat} {F : Nat → Nat → Int} : (tabI L n F).length = L := by simp [tabI]
theorem tabI_snoc {L n : Nat} {F : Nat → Nat → Int} : tabI (L + 1) n F = tabI L n F ++ [fnL n (F L)] := by simp [tabI, List.range_succ]
theorem tabI_congr {L n : Nat} {F G : Nat → Nat → Int} (h : ∀ l s, l < L → s < n → F l s = G l s) : tabI L n F = tabI L n G := List.map_congr_left fun l hl => fnL_congr fun s hs => h l s (List.mem_range.1 hl) hs
theorem rws_tabI_get {L n l : Nat} {F : Nat → Nat → Int} (h : l < L) : (rws (tabI L n F))[l]? = some ((fnL n (F l)).map (.int .i64)) := by simp [rws, tabI, h]
theorem rws_tabI_set {L n l k : Nat} {F : Nat → Nat → Int} {v : Int} : (rws (tabI L n F)).set l (((fnL n (F l)).map (D.int .i64)).set k (.int .i64 v)) = rws (tabI L n fun a b => if a = l ∧ b = k then v else F a b) := by
  rw [fnL_set]
  apply List.ext_getElem?
  intro j
  rw [List.getElem?_set]
  by_cases hi : l = j
  · subst hi
    by_cases hk : l < L
    · simp [rws, tabI, hk]
    · simp [rws, tabI, hk]
  · have hne : ¬ j = l := fun e => hi e.symm
    by_cases hk : j < L
    · simp [rws, tabI, hi, hk, hne]
    · simp [rws, tabI, hi, hk]
theorem parT_next {L n : Nat} {V : Nat → Int} {j i : Nat} (hj : j < L) (hi : i < n) : tabI L n (fun a b => if a = L - 1 - j ∧ b = n - 1 - i then V (j * n + i) else parT L n V j i a b) = tabI L n (parT L n V j (i + 1)) := tabI_congr fun l s hl hs => by
  unfold parT prcB
  by_cases h : l = L - 1 - j ∧ s = n - 1 - i
  · obtain ⟨h1, h2⟩ := h
    have e1 : L - 1 - l = j := by omega
    have e2 : n - 1 - s = i := by omega
    rw [if_pos ⟨h1, h2⟩, e1, e2]
    simp
  · rw [if_neg h]
    have : (L - 1 - l < j ∨ (L - 1 - l = j ∧ n - 1 - s < i)) ↔ (L - 1 - l < j ∨ (L - 1 - l = j ∧ n - 1 - s < i + 1)) := by omega
    simp only [decide_eq_true_eq, this]
theorem parT_row {L n : Nat} {V : Nat → Int} {j : Nat} : tabI L n (parT L n V j n) = tabI L n (parT L n V (j + 1) 0) := tabI_congr fun l s hl hs => by
  unfold parT prcB
  have : (L - 1 - l < j ∨ (L - 1 - l = j ∧ n - 1 - s < n)) ↔ (L - 1 - l < j + 1 ∨ (L - 1 - l = j + 1 ∧ n - 1 - s < 0)) := by omega
  simp only [decide_eq_true_eq, this]
theorem parT_none {L n : Nat} {V : Nat → Int} : tabI L n (fun _ _ => 0) = tabI L n (parT L n V 0 0) := tabI_congr fun l s hl hs => by simp [parT, prcB]
theorem parT_all {L n : Nat} {V : Nat → Int} : tabI L n (parT L n V L 0) = tabI L n (numT L n V) := tabI_congr fun l s hl hs => by
  unfold parT prcB numT
  have : (L - 1 - l < L ∨ (L - 1 - l = L ∧ n - 1 - s < 0)) := by omega
  rw [decide_eq_true this]
  rfl
theorem fnL_zero {n : Nat} : List.replicate n (D.int .i64 0) = (fnL n fun _ => 0).map (.int .i64) := by
  unfold fnL
  rw [List.map_map]
  exact (List.eq_replicate_iff.2 ⟨by simp, fun b hb => by simp at hb; exact hb.2.symm⟩).symm

/-- The tables of the machine with a number. -/
def numX (n : Nat) (o : Int) (L : Nat) (number : Int) : List (List Int) × List (List Int) := (tabI L n (numT L n (vN n o number)), tabI L n (numT L n (vO n o number)))

theorem mv_num {n : Nat} {o : Int} {L : Nat} {number : Int} (hn : 1 ≤ n ∧ n ≤ 10) (ho : 1 ≤ o ∧ o ≤ 3) (hL : 1 ≤ L ∧ L ≤ 3) (h : 0 ≤ number) : MV n o (numX n o L number).1 (numX n o L number).2 := by
  refine ⟨by omega, ho, by simp [numX]; omega, by simp [numX], fun ns hns => ?_, fun ns hns => ?_⟩
  · simp only [numX, tabI, List.mem_map] at hns
    obtain ⟨l, _, rfl⟩ := hns
    refine ⟨by rw [fnL_length], fun x hx => ?_⟩
    simp only [fnL, List.mem_map] at hx
    obtain ⟨q, _, rfl⟩ := hx
    unfold numT vN
    exact ⟨Int.emod_nonneg _ (by omega), Int.emod_lt_of_pos _ (by omega)⟩
  · simp only [numX, tabI, List.mem_map] at hns
    obtain ⟨l, _, rfl⟩ := hns
    refine ⟨by rw [fnL_length], fun x hx => ?_⟩
    simp only [fnL, List.mem_map] at hx
    obtain ⟨q, _, rfl⟩ := hx
    unfold numT vO
    exact ⟨Int.emod_nonneg _ (by omega), Int.emod_lt_of_pos _ (by omega)⟩

section
variable {s o : Int} {nx ou : List (List Int)}
theorem spec_l07Numbered (m : MV s o nx ou) {n : Nat} {number : Int} (hn : 1 ≤ n ∧ n ≤ 10) (h0 : 0 ≤ number ∧ number ≤ 1500000) :
    AC Try.prog 73 [.ptr (mach s o nx ou), .int .i64 n, .int .i64 number] (mach n o (numX n o nx.length number).1 (numX n o nx.length number).2) := by
  have ho := m.o1
  have hL := m.n1
  have hle : (List.map ints nx).length = nx.length := by simp
  have hir := iterN_range (n := (n : Int)) (o := o) (number := number) (by omega) ho.1 h0.1
  have hz : List.replicate ((n : Nat) : Int).toNat (D.int .i64 0) = (fnL n fun _ => 0).map (.int .i64) := by rw [Int.toNat_natCast]; exact fnL_zero
  have hrl : ∀ L F, (rws (tabI L n F)).length = L := fun L F => by rw [rws_length, tabI_length]
  have hfl : ∀ F, ((fnL n F).map (D.int .i64)).length = n := fun F => by simp
  unfold numX
  generalize hLL : nx.length = L at *
  refine ac_introC tabIs _ Try.func73 rfl rfl Try.ntmps73 rfl rfl fun w0 ok0 => ?_
  repeat (first | refine awp_seq ?_ | refine then_n ?_ | refine then_r ?_ | refine then_x ?_ | refine block_n ?_ | refine block_r ?_ | refine block_x ?_ | refine u_y ?_ | refine loop_r ?_ | refine loop_x ?_ | refine awp_region ?_ | refine awpL_nil ?_ | refine awpQL_nil ?_ | refine awp_block ?_ | refine awp_skip ?_ | refine awp_exit ?_ | refine awp_label ?_ | refine u_dT ?_ | refine u_d ?_ | refine u_l ?_ | refine u_o ?_ | refine u_q ?_ | refine u_lr ?_ | refine u_qr ?_ | refine u_ls ?_ | refine u_qs ?_ | refine u_t ?_ | refine u_f ?_ | refine v_s ?_ | refine v_o ?_ | refine v_on ?_ | refine v_og ?_ | refine v_q ?_ | refine v_sr ?_ | refine v_k ?_ | refine m_nil ?_)
  refine awp_nilCell 7 2 200 26 1 (by exact rfl) (by exact rfl) rfl rfl rfl ?_
  refine awp_toRows 200 2 1 rfl rfl rfl rfl ?_
  refine awp_nilCell 7 3 201 26 1 (by exact rfl) (by exact rfl) rfl rfl rfl ?_
  refine awp_toRows 201 2 1 rfl rfl rfl rfl ?_
  refine awp_perm [(6, .box [.d (.int .i64 0), .d (.int .i64 0), .d .nils, .d .nils]), (7, .box [.d (.int .i64 n), .d (.int .i64 o), .own 200, .own 201]), (200, .rows 26 2 1 (rws (tabI 0 n fun _ _ => 0)) none), (201, .rows 26 2 1 (rws (tabI 0 n fun _ _ => 0)) none)] rfl ?_
  refine awp_loop (fun k : Nat => k ≤ L) (fun k => [(0, .d (.ptr (mach s o nx ou))), (1, .d (.int .i64 n)), (2, .d (.int .i64 number)), (6, .ref 6 0), (7, .ref 7 0), (8, .d (.int .i64 k))])
    (fun k => [(6, .box [.d (.int .i64 0), .d (.int .i64 0), .d .nils, .d .nils]), (7, .box [.d (.int .i64 n), .d (.int .i64 o), .own 200, .own 201]), (200, .rows 26 2 1 (rws (tabI k n fun _ _ => 0)) none), (201, .rows 26 2 1 (rws (tabI k n fun _ _ => 0)) none)]) (fun k => L - k) 0 (by omega) ?_ rfl ?_
  · ((repeat (first | exact trivial | (refine ⟨?_, ?_⟩; (focus (first | rfl | (simp [lk, argsS, args0]; done) | (simp [lk, argsS, args0]; omega)))))))
  · intro k hk
    have hr1 := hrl k fun _ _ => 0
    by_cases hlt : k < L
    · have hsn : rws (tabI (k + 1) n fun _ _ => 0) = rws (tabI k n fun _ _ => 0) ++ [(fnL n fun _ => 0).map (.int .i64)] := by rw [tabI_snoc]; simp [rws]
      repeat (first | refine awp_seq ?_ | refine then_n ?_ | refine then_r ?_ | refine then_x ?_ | refine block_n ?_ | refine block_r ?_ | refine block_x ?_ | refine u_y ?_ | refine loop_r ?_ | refine loop_x ?_ | refine awp_region ?_ | refine awpL_nil ?_ | refine awpQL_nil ?_ | refine awp_block ?_ | refine awp_skip ?_ | refine awp_exit ?_ | refine awp_label ?_ | refine u_l ?_ | refine u_o ?_ | refine u_q ?_ | refine u_lr ?_ | refine u_qr ?_ | refine u_ls ?_ | refine u_qs ?_ | refine u_t ?_ | refine u_f ?_ | refine v_s ?_ | refine v_o ?_ | refine v_on ?_ | refine v_og ?_ | refine v_q ?_ | refine v_sr ?_ | refine v_k ?_ | refine m_nil ?_)
      refine u_m [(3, [29]), (4, [29, 30]), (5, [200, 30]), (7, [7])] (.tk [29, 30] [0, 1, 2] (.tk [] [3, 4, 5, 6, 7] .done)) ?_
      repeat (first | refine awp_seq ?_ | refine then_n ?_ | refine then_r ?_ | refine then_x ?_ | refine block_n ?_ | refine block_r ?_ | refine block_x ?_ | refine u_y ?_ | refine loop_r ?_ | refine loop_x ?_ | refine awp_region ?_ | refine awpL_nil ?_ | refine awpQL_nil ?_ | refine awp_block ?_ | refine awp_skip ?_ | refine awp_exit ?_ | refine awp_label ?_ | refine u_l ?_ | refine u_o ?_ | refine u_q ?_ | refine u_lr ?_ | refine u_qr ?_ | refine u_ls ?_ | refine u_qs ?_ | refine u_t ?_ | refine u_f ?_ | refine v_s ?_ | refine v_o ?_ | refine v_on ?_ | refine v_og ?_ | refine v_q ?_ | refine v_sr ?_ | refine v_k ?_ | refine m_nil ?_)
      refine u_m [(3, [36]), (4, [36, 37]), (5, [201, 37]), (7, [7])] (.tk [36, 37] [0, 1, 2] (.tk [] [3, 4, 5, 6, 7] .done)) ?_
      repeat (first | refine awp_seq ?_ | refine then_n ?_ | refine then_r ?_ | refine then_x ?_ | refine block_n ?_ | refine block_r ?_ | refine block_x ?_ | refine u_y ?_ | refine loop_r ?_ | refine loop_x ?_ | refine awpL_nil ?_ | refine awpQL_nil ?_ | refine awp_block ?_ | refine awp_skip ?_ | refine awp_exit ?_ | refine awp_label ?_ | refine u_dT ?_ | refine u_d ?_ | refine u_l ?_ | refine u_o ?_ | refine u_q ?_ | refine u_lr ?_ | refine u_qr ?_ | refine u_ls ?_ | refine u_qs ?_ | refine u_t ?_ | refine u_f ?_ | refine v_s ?_ | refine v_o ?_ | refine v_on ?_ | refine v_og ?_ | refine v_q ?_ | refine v_sr ?_ | refine v_k ?_ | refine m_nil ?_)
      refine awp_perm _ rfl ?_
      repeat (first | refine awp_seq ?_ | refine then_n ?_ | refine then_r ?_ | refine then_x ?_ | refine block_n ?_ | refine block_r ?_ | refine block_x ?_ | refine u_y ?_ | refine loop_r ?_ | refine loop_x ?_ | refine awp_region ?_ | refine awpL_nil ?_ | refine awpQL_nil ?_ | refine awp_block ?_ | refine awp_skip ?_ | refine awp_exit ?_ | refine awp_label ?_ | refine u_l ?_ | refine u_o ?_ | refine u_q ?_ | refine u_lr ?_ | refine u_qr ?_ | refine u_ls ?_ | refine u_qs ?_ | refine u_t ?_ | refine u_f ?_ | refine v_s ?_ | refine v_o ?_ | refine v_on ?_ | refine v_og ?_ | refine v_q ?_ | refine v_sr ?_ | refine v_k ?_ | refine m_nil ?_)
      refine loop_n (k + 1) (by omega) ?_ ?_ (by omega)
      · ((repeat (first | exact trivial | (refine ⟨?_, ?_⟩; (focus (first | rfl | (simp [lk, argsS, args0]; done) | (simp [lk, argsS, args0]; omega)))))))
      · rw [hsn, ← hz]; rfl
    · have : k = L := by omega
      subst this
      have hp0 := parT_none (L := k) (n := n) (V := vN n o number)
      have hp1 := parT_none (L := k) (n := n) (V := vO n o number)
      have hh : ([(6, .box [.d (.int .i64 0), .d (.int .i64 0), .d .nils, .d .nils]), (7, .box [.d (.int .i64 n), .d (.int .i64 o), .own 200, .own 201]), (200, .rows 26 2 1 (rws (tabI k n fun _ _ => 0)) none), (201, .rows 26 2 1 (rws (tabI k n fun _ _ => 0)) none)] : Heap)
        = [(6, .box [.d (.int .i64 0), .d (.int .i64 0), .d .nils, .d .nils]), (7, .box [.d (.int .i64 n), .d (.int .i64 o), .own 200, .own 201]), (200, .rows 26 2 1 (rws (tabI k n (parT k n (vN n o number) 0 0))) none), (201, .rows 26 2 1 (rws (tabI k n (parT k n (vO n o number) 0 0))) none)] := by rw [← hp0, ← hp1]
      rw [hh]
      have hL1 : (k : Int) - 1 = (k : Int) - 1 - (0 : Nat) := by simp
      repeat (first | refine awp_seq ?_ | refine then_n ?_ | refine then_r ?_ | refine then_x ?_ | refine block_n ?_ | refine block_r ?_ | refine block_x ?_ | refine u_y ?_ | refine loop_r ?_ | refine loop_x ?_ | refine awp_region ?_ | refine awpL_nil ?_ | refine awpQL_nil ?_ | refine awp_block ?_ | refine awp_skip ?_ | refine awp_exit ?_ | refine awp_label ?_ | refine u_dT ?_ | refine u_d ?_ | refine u_l ?_ | refine u_o ?_ | refine u_q ?_ | refine u_lr ?_ | refine u_qr ?_ | refine u_ls ?_ | refine u_qs ?_ | refine u_t ?_ | refine u_f ?_ | refine v_s ?_ | refine v_o ?_ | refine v_on ?_ | refine v_og ?_ | refine v_q ?_ | refine v_sr ?_ | refine v_k ?_ | refine m_nil ?_)
      refine awp_loop (fun j : Nat => j ≤ k) (fun j => [(0, .d (.ptr (mach s o nx ou))), (1, .d (.int .i64 n)), (2, .d (.int .i64 (iterN n o number (j * n)))), (6, .ref 6 0), (7, .ref 7 0), (9, .d (.int .i64 ((k : Int) - 1 - j)))])
        (fun j => [(6, .box [.d (.int .i64 0), .d (.int .i64 0), .d .nils, .d .nils]), (7, .box [.d (.int .i64 n), .d (.int .i64 o), .own 200, .own 201]), (200, .rows 26 2 1 (rws (tabI k n (parT k n (vN n o number) j 0))) none), (201, .rows 26 2 1 (rws (tabI k n (parT k n (vO n o number) j 0))) none)]) (fun j => k - j) 0 (by omega) ?_ rfl ?_
      · refine ⟨rfl, rfl, ?_, rfl, rfl, ?_, trivial⟩
        · simp [lk, iterN]
        · show SV.d (.int .i64 (((List.map ints nx).length : Int) - 1)) = _
          rw [hle, ← hL1]
      · intro j hj
        by_cases hjl : j < k
        · repeat (first | refine awp_seq ?_ | refine then_n ?_ | refine then_r ?_ | refine then_x ?_ | refine block_n ?_ | refine block_r ?_ | refine block_x ?_ | refine u_y ?_ | refine loop_r ?_ | refine loop_x ?_ | refine awp_region ?_ | refine awpL_nil ?_ | refine awpQL_nil ?_ | refine awp_block ?_ | refine awp_skip ?_ | refine awp_exit ?_ | refine awp_label ?_ | refine u_dT ?_ | refine u_d ?_ | refine u_l ?_ | refine u_o ?_ | refine u_q ?_ | refine u_lr ?_ | refine u_qr ?_ | refine u_ls ?_ | refine u_qs ?_ | refine u_t ?_ | refine u_f ?_ | refine v_s ?_ | refine v_o ?_ | refine v_on ?_ | refine v_og ?_ | refine v_q ?_ | refine v_sr ?_ | refine v_k ?_ | refine m_nil ?_)
          refine awp_loop (fun i : Nat => i ≤ n) (fun i => [(0, .d (.ptr (mach s o nx ou))), (1, .d (.int .i64 n)), (2, .d (.int .i64 (iterN n o number (j * n + i)))), (6, .ref 6 0), (7, .ref 7 0), (9, .d (.int .i64 ((k : Int) - 1 - j))), (10, .d (.int .i64 ((n : Int) - 1 - i)))])
            (fun i => [(6, .box [.d (.int .i64 0), .d (.int .i64 0), .d .nils, .d .nils]), (7, .box [.d (.int .i64 n), .d (.int .i64 o), .own 200, .own 201]), (200, .rows 26 2 1 (rws (tabI k n (parT k n (vN n o number) j i))) none), (201, .rows 26 2 1 (rws (tabI k n (parT k n (vO n o number) j i))) none)]) (fun i => n - i) 0 (by omega) ?_ rfl ?_
          · refine ⟨rfl, rfl, rfl, rfl, rfl, rfl, ?_, trivial⟩
            show SV.d (.int .i64 ((n : Int) - 1)) = SV.d (.int .i64 ((n : Int) - 1 - (0 : Nat)))
            simp
          · intro i hi
            by_cases hil : i < n
            · have hr := hir (j * n + i)
              have hstep : iterN n o number (j * n + (i + 1)) = iterN n o number (j * n + i) / o / n := rfl
              have hvO : vO n o number (j * n + i) = iterN n o number (j * n + i) % o := rfl
              have hvN : vN n o number (j * n + i) = iterN n o number (j * n + i) / o % n := rfl
              have hlx : (k : Int) - 1 - j = ((k - 1 - j : Nat) : Int) := by omega
              have hsx : (n : Int) - 1 - i = ((n - 1 - i : Nat) : Int) := by omega
              have hnx : ((n : Int) - 1 - i) - 1 = (n : Int) - 1 - ((i + 1 : Nat) : Int) := by omega
              have g1 := rws_tabI_get (n := n) (F := parT k n (vO n o number) j i) (show k - 1 - j < k by omega)
              have g2 := rws_tabI_get (n := n) (F := parT k n (vN n o number) j i) (show k - 1 - j < k by omega)
              have p1 := rws_tabI_set (L := k) (n := n) (l := k - 1 - j) (k := n - 1 - i) (F := parT k n (vO n o number) j i) (v := iterN n o number (j * n + i) % o)
              have p2 := rws_tabI_set (L := k) (n := n) (l := k - 1 - j) (k := n - 1 - i) (F := parT k n (vN n o number) j i) (v := iterN n o number (j * n + i) / o % n)
              rw [← hvO, parT_next hjl hil] at p1
              rw [← hvN, parT_next hjl hil] at p2
              have hq1 : 0 ≤ iterN n o number (j * n + i) / o := Int.ediv_nonneg hr.1 (by omega)
              have hq2 : iterN n o number (j * n + i) / o ≤ iterN n o number (j * n + i) := Int.ediv_le_self _ hr.1
              have hlT : ((k : Int) - 1 - j).toNat = k - 1 - j := by omega
              have hsT : ((n : Int) - 1 - i).toNat = n - 1 - i := by omega
              have hl1 := hrl k (parT k n (vO n o number) j i)
              have hl2 := hrl k (parT k n (vN n o number) j i)
              rw [← hlT] at g1 g2
              generalize iterN n o number (j * n + i) = u at *
              repeat (first | refine awp_seq ?_ | refine then_n ?_ | refine then_r ?_ | refine then_x ?_ | refine block_n ?_ | refine block_r ?_ | refine block_x ?_ | refine u_y ?_ | refine loop_r ?_ | refine loop_x ?_ | refine awp_region ?_ | refine awpL_nil ?_ | refine awpQL_nil ?_ | refine awp_block ?_ | refine awp_skip ?_ | refine awp_exit ?_ | refine awp_label ?_ | refine u_l ?_ | refine u_o ?_ | refine u_q ?_ | refine u_lr ?_ | refine u_qr ?_ | refine u_ls ?_ | refine u_qs ?_ | refine u_t ?_ | refine u_f ?_ | refine v_s ?_ | refine v_o ?_ | refine v_on ?_ | refine v_og ?_ | refine v_q ?_ | refine v_sr ?_ | refine v_k ?_ | refine m_nil ?_)
              refine awp_carve0 201 ((k : Int) - 1 - j).toNat 300 rfl g1 rfl rfl rfl ?_
              repeat (first | refine awp_seq ?_ | refine then_n ?_ | refine then_r ?_ | refine then_x ?_ | refine block_n ?_ | refine block_r ?_ | refine block_x ?_ | refine u_y ?_ | refine loop_r ?_ | refine loop_x ?_ | refine awpL_nil ?_ | refine awpQL_nil ?_ | refine awp_block ?_ | refine awp_skip ?_ | refine awp_exit ?_ | refine awp_label ?_ | refine u_dT ?_ | refine u_d ?_ | ((first | apply x_l | apply x_q | apply x_lr | apply x_qr); (focus (first | (apply wa_loadHole; (iterate 5 (focus (first | exact rfl | (first | assumption | omega | (simp; omega) | (simp; done) | rfl))))))); exact rfl) | (apply v_x; (iterate 2 exact rfl); (focus (intro ok0 nw hle; (first | (apply wa_loadHole; (iterate 5 (focus (first | exact rfl | (first | assumption | omega | (simp; omega) | (simp; done) | rfl)))))))); (iterate 2 exact rfl)) | refine u_l ?_ | refine u_o ?_ | refine u_q ?_ | refine u_lr ?_ | refine u_qr ?_ | refine u_ls ?_ | refine u_qs ?_ | refine u_t ?_ | refine u_f ?_ | refine v_s ?_ | refine v_o ?_ | refine v_on ?_ | refine v_og ?_ | refine v_q ?_ | refine v_sr ?_ | refine v_k ?_ | refine m_nil ?_)
              refine awp_back 201 300 (by exact rfl) (by exact rfl) (by exact rfl) (by exact rfl) (by exact rfl) (by exact rfl) g1 (by simp) ?_
              repeat (first | refine awp_seq ?_ | refine then_n ?_ | refine then_r ?_ | refine then_x ?_ | refine block_n ?_ | refine block_r ?_ | refine block_x ?_ | refine u_y ?_ | refine loop_r ?_ | refine loop_x ?_ | refine awp_region ?_ | refine awpL_nil ?_ | refine awpQL_nil ?_ | refine awp_block ?_ | refine awp_skip ?_ | refine awp_exit ?_ | refine awp_label ?_ | refine u_l ?_ | refine u_o ?_ | refine u_q ?_ | refine u_lr ?_ | refine u_qr ?_ | refine u_ls ?_ | refine u_qs ?_ | refine u_t ?_ | refine u_f ?_ | refine v_s ?_ | refine v_o ?_ | refine v_on ?_ | refine v_og ?_ | refine v_q ?_ | refine v_sr ?_ | refine v_k ?_ | refine m_nil ?_)
              refine awp_carve0 200 ((k : Int) - 1 - j).toNat 300 rfl g2 rfl rfl rfl ?_
              repeat (first | refine awp_seq ?_ | refine then_n ?_ | refine then_r ?_ | refine then_x ?_ | refine block_n ?_ | refine block_r ?_ | refine block_x ?_ | refine u_y ?_ | refine loop_r ?_ | refine loop_x ?_ | refine awpL_nil ?_ | refine awpQL_nil ?_ | refine awp_block ?_ | refine awp_skip ?_ | refine awp_exit ?_ | refine awp_label ?_ | refine u_dT ?_ | refine u_d ?_ | ((first | apply x_l | apply x_q | apply x_lr | apply x_qr); (focus (first | (apply wa_loadHole; (iterate 5 (focus (first | exact rfl | (first | assumption | omega | (simp; omega) | (simp; done) | rfl))))))); exact rfl) | (apply v_x; (iterate 2 exact rfl); (focus (intro ok0 nw hle; (first | (apply wa_loadHole; (iterate 5 (focus (first | exact rfl | (first | assumption | omega | (simp; omega) | (simp; done) | rfl)))))))); (iterate 2 exact rfl)) | refine u_l ?_ | refine u_o ?_ | refine u_q ?_ | refine u_lr ?_ | refine u_qr ?_ | refine u_ls ?_ | refine u_qs ?_ | refine u_t ?_ | refine u_f ?_ | refine v_s ?_ | refine v_o ?_ | refine v_on ?_ | refine v_og ?_ | refine v_q ?_ | refine v_sr ?_ | refine v_k ?_ | refine m_nil ?_)
              refine awp_back 200 300 (by exact rfl) (by exact rfl) (by exact rfl) (by exact rfl) (by exact rfl) (by exact rfl) g2 (by simp) ?_
              refine awp_perm _ rfl ?_
              repeat (first | refine awp_seq ?_ | refine then_n ?_ | refine then_r ?_ | refine then_x ?_ | refine block_n ?_ | refine block_r ?_ | refine block_x ?_ | refine u_y ?_ | refine loop_r ?_ | refine loop_x ?_ | refine awp_region ?_ | refine awpL_nil ?_ | refine awpQL_nil ?_ | refine awp_block ?_ | refine awp_skip ?_ | refine awp_exit ?_ | refine awp_label ?_ | refine u_dT ?_ | refine u_d ?_ | refine u_l ?_ | refine u_o ?_ | refine u_q ?_ | refine u_lr ?_ | refine u_qr ?_ | refine u_ls ?_ | refine u_qs ?_ | refine u_t ?_ | refine u_f ?_ | refine v_s ?_ | refine v_o ?_ | refine v_on ?_ | refine v_og ?_ | refine v_q ?_ | refine v_sr ?_ | refine v_k ?_ | refine m_nil ?_)
              refine loop_n (i + 1) (by omega) ?_ ?_ (by omega)
              · rw [hstep, ← hnx]; ((repeat (first | exact trivial | (refine ⟨?_, ?_⟩; (focus (first | rfl | (simp [lk, argsS, args0]; done) | (simp [lk, argsS, args0]; omega)))))))
              · rw [← p1, ← p2, ← hlT, ← hsT]
                rw [hvO, hvN]
                rfl
            · have : i = n := by omega
              subst this
              have hjn : j * i + i = (j + 1) * i := (Nat.succ_mul j i).symm
              have hnx : ((k : Int) - 1 - j) - 1 = (k : Int) - 1 - ((j + 1 : Nat) : Int) := by omega
              rw [parT_row, parT_row, hjn]
              repeat (first | refine awp_seq ?_ | refine then_n ?_ | refine then_r ?_ | refine then_x ?_ | refine block_n ?_ | refine block_r ?_ | refine block_x ?_ | refine u_y ?_ | refine loop_r ?_ | refine loop_x ?_ | refine awp_region ?_ | refine awpL_nil ?_ | refine awpQL_nil ?_ | refine awp_block ?_ | refine awp_skip ?_ | refine awp_exit ?_ | refine awp_label ?_ | refine u_dT ?_ | refine u_d ?_ | refine u_l ?_ | refine u_o ?_ | refine u_q ?_ | refine u_lr ?_ | refine u_qr ?_ | refine u_ls ?_ | refine u_qs ?_ | refine u_t ?_ | refine u_f ?_ | refine v_s ?_ | refine v_o ?_ | refine v_on ?_ | refine v_og ?_ | refine v_q ?_ | refine v_sr ?_ | refine v_k ?_ | refine m_nil ?_)
              refine loop_n (j + 1) (by omega) ?_ rfl (by omega)
              rw [← hnx]
              ((repeat (first | exact trivial | (refine ⟨?_, ?_⟩; (focus (first | rfl | (simp [lk, argsS, args0]; done) | (simp [lk, argsS, args0]; omega)))))))
        · have : j = k := by omega
          subst this
          rw [parT_all, parT_all]
          repeat (first | refine awp_seq ?_ | refine then_n ?_ | refine then_r ?_ | refine then_x ?_ | refine block_n ?_ | refine block_r ?_ | refine block_x ?_ | refine u_y ?_ | refine loop_r ?_ | refine loop_x ?_ | refine awp_region ?_ | refine awpL_nil ?_ | refine awpQL_nil ?_ | refine awp_block ?_ | refine awp_skip ?_ | refine awp_exit ?_ | refine awp_label ?_ | refine u_dT ?_ | refine u_d ?_ | refine u_l ?_ | refine u_o ?_ | refine u_q ?_ | refine u_lr ?_ | refine u_qr ?_ | refine u_ls ?_ | refine u_qs ?_ | refine u_t ?_ | refine u_f ?_ | refine v_s ?_ | refine v_o ?_ | refine v_on ?_ | refine v_og ?_ | refine v_q ?_ | refine v_sr ?_ | refine v_k ?_ | refine m_nil ?_)
          refine awp_freeze 200 rfl rfl ?_
          refine awp_freeze 201 rfl rfl ?_
          (refine awp_ret ?_; (repeat (first | refine then_r ?_ | refine block_r ?_ | refine loop_r ?_)); apply ret_okC (.inr rfl); (focus exact rfl))
          unfold mach
          rw [rws_dat, rws_dat]
end
end Go.Proofs.Ytkaffmojojnhhaa
