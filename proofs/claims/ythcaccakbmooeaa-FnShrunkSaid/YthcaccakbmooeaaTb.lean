/- Which words stay in a suite: plain facts, and the reference. No condition. -/
import Derived.Test.YthcaccakbmooeaaTa
import Derived.Test.YthcaccakbmooeaaFz
namespace Go.Proofs.Ythcaccakbmooeaa
open Go
attribute [local irreducible] awp awpL awpQL awpQ awpM pWalk Qt AC thenQ blockQ loopQ OpTo
set_option linter.unusedVariables false
set_option linter.unusedSimpArgs false
set_option maxHeartbeats 2000000
attribute [local irreducible] HC
open Go.RowKit (Below)

/-- Does the word kill a mutant that no other kept one kills? -/
def othB (F : Nat → Nat → Bool) (K : Nat → Bool) (a k i : Nat) : Bool := decide (i = a) || (!K i || !F i k)
def aloB (F : Nat → Nat → Bool) (K : Nat → Bool) (a k n : Nat) : Bool := F a k && (List.range n).all fun i => othB F K a k i
def need (N M : Nat) (F : Nat → Nat → Bool) (K : Nat → Bool) (a : Nat) : Bool := (List.range M).any fun k => aloB F K a k N
def kp (N M : Nat) (F : Nat → Nat → Bool) : Nat → Nat → Bool
  | 0, _ => true
  | j + 1, i => if i = N - 1 - j then need N M F (kp N M F j) (N - 1 - j) else kp N M F j i
def kepL (ws : List (List Int)) (K : Nat → Bool) : Nat → List (List Int)
  | 0 => []
  | i + 1 => kepL ws K i ++ if K i then [ws.getD i []] else []
theorem aloB_succ {F : Nat → Nat → Bool} {K : Nat → Bool} {a k n : Nat} : aloB F K a k (n + 1) = (aloB F K a k n && othB F K a k n) := by
  unfold aloB
  rw [List.range_succ, List.all_append]
  simp [Bool.and_assoc]
theorem aloB_false {F : Nat → Nat → Bool} {K : Nat → Bool} {a k : Nat} : ∀ {n : Nat} (e : Nat), aloB F K a k n = false → aloB F K a k (n + e) = false
  | _, 0, h => h
  | n, e + 1, h => by rw [← Nat.add_assoc, aloB_succ, aloB_false e h, Bool.false_and]
theorem kepL_len {ws : List (List Int)} {K : Nat → Bool} : ∀ n, (kepL ws K n).length ≤ n
  | 0 => Nat.le_refl _
  | n + 1 => by
    have := kepL_len (ws := ws) (K := K) n
    unfold kepL
    rw [List.length_append]
    split <;> simp <;> omega
theorem kepL_mem {ws : List (List Int)} {K : Nat → Bool} : ∀ {n : Nat}, n ≤ ws.length → ∀ w ∈ kepL ws K n, w ∈ ws
  | 0, _, _, h => by cases h
  | n + 1, hn, w, h => by
    unfold kepL at h
    rcases List.mem_append.1 h with h | h
    · exact kepL_mem (by omega) w h
    · split at h
      · simp only [List.mem_singleton] at h
        subst h
        rw [List.getD_eq_getElem?_getD, List.getElem?_eq_getElem (by omega), Option.getD_some]
        exact List.getElem_mem _
      · cases h

theorem spec_l07Needed {N M a : Nat} {F : Nat → Nat → Bool} {K : Nat → Bool} (ha : a < N) (hN : N ≤ 1000) (hM : M ≤ 1000) :
    AC Try.prog 65 [.lst ((tabB N M F).map D.lst), .lst (rowB N K), .int .i64 a] (.bool (need N M F K a)) := by
  have hl1 : ((tabB N M F).map D.lst).length = N := by simp
  have hl2 : (rowB N K).length = N := by simp
  have hrow : ∀ i, i < N → ((tabB N M F).map D.lst)[(i : Int).toNat]? = some (.lst (rowB M (F i))) := fun i h => by
    have := tabB_get (M := M) (F := F) h
    rw [List.getElem?_map, this]
    rfl
  have hra := hrow a ha
  have hlr : ∀ i, (rowB M (F i)).length = M := fun i => by simp
  have hlra := hlr a
  refine ac_intro tabIs _ Try.func65 rfl rfl Try.ntmps65 rfl rfl fun w0 ok0 => ?_
  repeat (first | refine awp_seq ?_ | refine then_n ?_ | refine then_r ?_ | refine then_x ?_ | refine block_n ?_ | refine block_r ?_ | refine block_x ?_ | refine u_y ?_ | refine loop_r ?_ | refine loop_x ?_ | refine awp_region ?_ | refine awpL_nil ?_ | refine awpQL_nil ?_ | refine awp_block ?_ | refine awp_skip ?_ | refine awp_exit ?_ | refine awp_label ?_ | refine u_dT ?_ | refine u_d ?_ | refine u_l ?_ | refine u_o ?_ | refine u_q ?_ | refine u_lr ?_ | refine u_qr ?_ | refine u_ls ?_ | refine u_qs ?_ | refine u_t ?_ | refine u_f ?_ | refine v_s ?_ | refine v_o ?_ | refine v_on ?_ | refine v_og ?_ | refine v_q ?_ | refine v_sr ?_ | refine v_k ?_ | refine m_nil ?_)
  refine awp_loop (fun k : Nat => k ≤ M ∧ ∀ g, g < k → aloB F K a g N = false) (fun k => [(0, .d (.lst ((tabB N M F).map D.lst))), (1, .d (.lst (rowB N K))), (2, .d (.int .i64 a)), (7, .d (.int .i64 k))]) (fun _ => []) (fun k => M - k) 0 (by exact ⟨by omega, fun g h => by omega⟩) ?_ rfl ?_
  · ((repeat (first | exact trivial | (refine ⟨?_, ?_⟩; (focus (first | rfl | (simp [lk, argsS, args0]; done) | (simp [lk, argsS, args0]; omega)))))))
  · rintro k ⟨hk, hg⟩
    by_cases hlt : k < M
    · have hel := rowB_get (F := F a) hlt
      have ha0 : aloB F K a k 0 = F a k := by simp [aloB]
      repeat (first | refine awp_seq ?_ | refine then_n ?_ | refine then_r ?_ | refine then_x ?_ | refine block_n ?_ | refine block_r ?_ | refine block_x ?_ | refine u_y ?_ | refine loop_r ?_ | refine loop_x ?_ | refine awp_region ?_ | refine awpL_nil ?_ | refine awpQL_nil ?_ | refine awp_block ?_ | refine awp_skip ?_ | refine awp_exit ?_ | refine awp_label ?_ | refine u_dT ?_ | refine u_d ?_ | refine u_l ?_ | refine u_o ?_ | refine u_q ?_ | refine u_lr ?_ | refine u_qr ?_ | refine u_ls ?_ | refine u_qs ?_ | refine u_t ?_ | refine u_f ?_ | refine v_s ?_ | refine v_o ?_ | refine v_on ?_ | refine v_og ?_ | refine v_q ?_ | refine v_sr ?_ | refine v_k ?_ | refine m_nil ?_)
      refine awp_loop (fun i : Nat => i ≤ N) (fun i => [(0, .d (.lst ((tabB N M F).map D.lst))), (1, .d (.lst (rowB N K))), (2, .d (.int .i64 a)), (7, .d (.int .i64 k)), (8, .d (.bool (aloB F K a k i))), (9, .d (.int .i64 i))]) (fun _ => []) (fun i => N - i) 0 (by omega) ?_ rfl ?_
      · rw [ha0]; ((repeat (first | exact trivial | (refine ⟨?_, ?_⟩; (focus (first | rfl | (simp [lk, argsS, args0]; done) | (simp [lk, argsS, args0]; omega)))))))
      · intro i hi
        by_cases hil : i < N
        · cases hal : aloB F K a k i
          · have hend : aloB F K a k N = false := by
              have := aloB_false (N - i) hal
              rwa [show i + (N - i) = N by omega] at this
            repeat (first | refine awp_seq ?_ | refine then_n ?_ | refine then_r ?_ | refine then_x ?_ | refine block_n ?_ | refine block_r ?_ | refine block_x ?_ | refine u_y ?_ | refine loop_r ?_ | refine loop_x ?_ | refine awp_region ?_ | refine awpL_nil ?_ | refine awpQL_nil ?_ | refine awp_block ?_ | refine awp_skip ?_ | refine awp_exit ?_ | refine awp_label ?_ | refine u_dT ?_ | refine u_d ?_ | refine u_l ?_ | refine u_o ?_ | refine u_q ?_ | refine u_lr ?_ | refine u_qr ?_ | refine u_ls ?_ | refine u_qs ?_ | refine u_t ?_ | refine u_f ?_ | refine v_s ?_ | refine v_o ?_ | refine v_on ?_ | refine v_og ?_ | refine v_q ?_ | refine v_sr ?_ | refine v_k ?_ | refine m_nil ?_)
            refine u_sl ?_ ?_
            rotate_left
            · intro hb; exact absurd hb (by first | (simp; done) | (simp; omega))
            intro _
            repeat (first | refine awp_seq ?_ | refine then_n ?_ | refine then_r ?_ | refine then_x ?_ | refine block_n ?_ | refine block_r ?_ | refine block_x ?_ | refine u_y ?_ | refine loop_r ?_ | refine loop_x ?_ | refine awp_region ?_ | refine awpL_nil ?_ | refine awpQL_nil ?_ | refine awp_block ?_ | refine awp_skip ?_ | refine awp_exit ?_ | refine awp_label ?_ | refine u_dT ?_ | refine u_d ?_ | refine u_l ?_ | refine u_o ?_ | refine u_q ?_ | refine u_lr ?_ | refine u_qr ?_ | refine u_ls ?_ | refine u_qs ?_ | refine u_t ?_ | refine u_f ?_ | refine v_s ?_ | refine v_o ?_ | refine v_on ?_ | refine v_og ?_ | refine v_q ?_ | refine v_sr ?_ | refine v_k ?_ | refine m_nil ?_)
            refine loop_n (k + 1) ⟨by omega, fun g h => ?_⟩ ?_ rfl (by omega)
            · by_cases e : g = k
              · subst e; exact hend
              · exact hg g (by omega)
            · ((repeat (first | exact trivial | (refine ⟨?_, ?_⟩; (focus (first | rfl | (simp [lk, argsS, args0]; done) | (simp [lk, argsS, args0]; omega)))))))
          · have hsucc := aloB_succ (F := F) (K := K) (a := a) (k := k) (n := i)
            rw [hal, Bool.true_and] at hsucc
            unfold othB at hsucc
            have hri := hrow i hil
            have hlri := hlr i
            have hki := rowB_get (F := K) hil
            have heli := rowB_get (F := F i) hlt
            by_cases hia : i = a
            · rw [decide_eq_true hia, Bool.true_or] at hsucc
              repeat (first | refine awp_seq ?_ | refine then_n ?_ | refine then_r ?_ | refine then_x ?_ | refine block_n ?_ | refine block_r ?_ | refine block_x ?_ | refine u_y ?_ | refine loop_r ?_ | refine loop_x ?_ | refine awp_region ?_ | refine awpL_nil ?_ | refine awpQL_nil ?_ | refine awp_block ?_ | refine awp_skip ?_ | refine awp_exit ?_ | refine awp_label ?_ | refine u_dT ?_ | refine u_d ?_ | refine u_l ?_ | refine u_o ?_ | refine u_q ?_ | refine u_lr ?_ | refine u_qr ?_ | refine u_ls ?_ | refine u_qs ?_ | refine u_t ?_ | refine u_f ?_ | refine v_s ?_ | refine v_o ?_ | refine v_on ?_ | refine v_og ?_ | refine v_q ?_ | refine v_sr ?_ | refine v_k ?_ | refine m_nil ?_)
              refine u_sl ?_ ?_
              rotate_left
              · intro hb; exact absurd hb (by first | (simp; done) | (simp; omega))
              intro _
              repeat (first | refine awp_seq ?_ | refine then_n ?_ | refine then_r ?_ | refine then_x ?_ | refine block_n ?_ | refine block_r ?_ | refine block_x ?_ | refine u_y ?_ | refine loop_r ?_ | refine loop_x ?_ | refine awp_region ?_ | refine awpL_nil ?_ | refine awpQL_nil ?_ | refine awp_block ?_ | refine awp_skip ?_ | refine awp_exit ?_ | refine awp_label ?_ | refine u_dT ?_ | refine u_d ?_ | refine u_l ?_ | refine u_o ?_ | refine u_q ?_ | refine u_lr ?_ | refine u_qr ?_ | refine u_ls ?_ | refine u_qs ?_ | refine u_t ?_ | refine u_f ?_ | refine v_s ?_ | refine v_o ?_ | refine v_on ?_ | refine v_og ?_ | refine v_q ?_ | refine v_sr ?_ | refine v_k ?_ | refine m_nil ?_)
              refine u_sl ?_ ?_
              rotate_left
              · intro hb; exact absurd hb (by first | (simp; done) | (simp; omega))
              intro _
              repeat (first | refine awp_seq ?_ | refine then_n ?_ | refine then_r ?_ | refine then_x ?_ | refine block_n ?_ | refine block_r ?_ | refine block_x ?_ | refine u_y ?_ | refine loop_r ?_ | refine loop_x ?_ | refine awp_region ?_ | refine awpL_nil ?_ | refine awpQL_nil ?_ | refine awp_block ?_ | refine awp_skip ?_ | refine awp_exit ?_ | refine awp_label ?_ | refine u_dT ?_ | refine u_d ?_ | refine u_l ?_ | refine u_o ?_ | refine u_q ?_ | refine u_lr ?_ | refine u_qr ?_ | refine u_ls ?_ | refine u_qs ?_ | refine u_t ?_ | refine u_f ?_ | refine v_s ?_ | refine v_o ?_ | refine v_on ?_ | refine v_og ?_ | refine v_q ?_ | refine v_sr ?_ | refine v_k ?_ | refine m_nil ?_)
              refine loop_n (i + 1) (by omega) ?_ rfl (by omega)
              rw [hsucc]
              ((repeat (first | exact trivial | (refine ⟨?_, ?_⟩; (focus (first | rfl | (simp [lk, argsS, args0]; done) | (simp [lk, argsS, args0]; omega)))))))
            · rw [decide_eq_false hia, Bool.false_or] at hsucc
              cases hK : K i
              · rw [hK] at hsucc hki
                simp only [Bool.not_false, Bool.true_or] at hsucc
                repeat (first | refine awp_seq ?_ | refine then_n ?_ | refine then_r ?_ | refine then_x ?_ | refine block_n ?_ | refine block_r ?_ | refine block_x ?_ | refine u_y ?_ | refine loop_r ?_ | refine loop_x ?_ | refine awp_region ?_ | refine awpL_nil ?_ | refine awpQL_nil ?_ | refine awp_block ?_ | refine awp_skip ?_ | refine awp_exit ?_ | refine awp_label ?_ | refine u_dT ?_ | refine u_d ?_ | refine u_l ?_ | refine u_o ?_ | refine u_q ?_ | refine u_lr ?_ | refine u_qr ?_ | refine u_ls ?_ | refine u_qs ?_ | refine u_t ?_ | refine u_f ?_ | refine v_s ?_ | refine v_o ?_ | refine v_on ?_ | refine v_og ?_ | refine v_q ?_ | refine v_sr ?_ | refine v_k ?_ | refine m_nil ?_)
                refine u_sl ?_ ?_
                rotate_left
                · intro hb; exact absurd hb (by first | (simp; done) | (simp; omega))
                intro _
                repeat (first | refine awp_seq ?_ | refine then_n ?_ | refine then_r ?_ | refine then_x ?_ | refine block_n ?_ | refine block_r ?_ | refine block_x ?_ | refine u_y ?_ | refine loop_r ?_ | refine loop_x ?_ | refine awp_region ?_ | refine awpL_nil ?_ | refine awpQL_nil ?_ | refine awp_block ?_ | refine awp_skip ?_ | refine awp_exit ?_ | refine awp_label ?_ | refine u_dT ?_ | refine u_d ?_ | refine u_l ?_ | refine u_o ?_ | refine u_q ?_ | refine u_lr ?_ | refine u_qr ?_ | refine u_ls ?_ | refine u_qs ?_ | refine u_t ?_ | refine u_f ?_ | refine v_s ?_ | refine v_o ?_ | refine v_on ?_ | refine v_og ?_ | refine v_q ?_ | refine v_sr ?_ | refine v_k ?_ | refine m_nil ?_)
                refine u_sl ?_ ?_
                · intro hb; exact absurd hb (by first | (simp; done) | (simp; omega))
                intro _
                repeat (first | refine awp_seq ?_ | refine then_n ?_ | refine then_r ?_ | refine then_x ?_ | refine block_n ?_ | refine block_r ?_ | refine block_x ?_ | refine u_y ?_ | refine loop_r ?_ | refine loop_x ?_ | refine awp_region ?_ | refine awpL_nil ?_ | refine awpQL_nil ?_ | refine awp_block ?_ | refine awp_skip ?_ | refine awp_exit ?_ | refine awp_label ?_ | refine u_dT ?_ | refine u_d ?_ | refine u_l ?_ | refine u_o ?_ | refine u_q ?_ | refine u_lr ?_ | refine u_qr ?_ | refine u_ls ?_ | refine u_qs ?_ | refine u_t ?_ | refine u_f ?_ | refine v_s ?_ | refine v_o ?_ | refine v_on ?_ | refine v_og ?_ | refine v_q ?_ | refine v_sr ?_ | refine v_k ?_ | refine m_nil ?_)
                refine loop_n (i + 1) (by omega) ?_ rfl (by omega)
                rw [hsucc]
                ((repeat (first | exact trivial | (refine ⟨?_, ?_⟩; (focus (first | rfl | (simp [lk, argsS, args0]; done) | (simp [lk, argsS, args0]; omega)))))))
              · rw [hK] at hsucc hki
                simp only [Bool.not_true, Bool.false_or] at hsucc
                repeat (first | refine awp_seq ?_ | refine then_n ?_ | refine then_r ?_ | refine then_x ?_ | refine block_n ?_ | refine block_r ?_ | refine block_x ?_ | refine u_y ?_ | refine loop_r ?_ | refine loop_x ?_ | refine awp_region ?_ | refine awpL_nil ?_ | refine awpQL_nil ?_ | refine awp_block ?_ | refine awp_skip ?_ | refine awp_exit ?_ | refine awp_label ?_ | refine u_dT ?_ | refine u_d ?_ | refine u_l ?_ | refine u_o ?_ | refine u_q ?_ | refine u_lr ?_ | refine u_qr ?_ | refine u_ls ?_ | refine u_qs ?_ | refine u_t ?_ | refine u_f ?_ | refine v_s ?_ | refine v_o ?_ | refine v_on ?_ | refine v_og ?_ | refine v_q ?_ | refine v_sr ?_ | refine v_k ?_ | refine m_nil ?_)
                refine u_sl ?_ ?_
                rotate_left
                · intro hb; exact absurd hb (by first | (simp; done) | (simp; omega))
                intro _
                repeat (first | refine awp_seq ?_ | refine then_n ?_ | refine then_r ?_ | refine then_x ?_ | refine block_n ?_ | refine block_r ?_ | refine block_x ?_ | refine u_y ?_ | refine loop_r ?_ | refine loop_x ?_ | refine awp_region ?_ | refine awpL_nil ?_ | refine awpQL_nil ?_ | refine awp_block ?_ | refine awp_skip ?_ | refine awp_exit ?_ | refine awp_label ?_ | refine u_dT ?_ | refine u_d ?_ | refine u_l ?_ | refine u_o ?_ | refine u_q ?_ | refine u_lr ?_ | refine u_qr ?_ | refine u_ls ?_ | refine u_qs ?_ | refine u_t ?_ | refine u_f ?_ | refine v_s ?_ | refine v_o ?_ | refine v_on ?_ | refine v_og ?_ | refine v_q ?_ | refine v_sr ?_ | refine v_k ?_ | refine m_nil ?_)
                refine u_sl ?_ ?_
                · intro hb; exact absurd hb (by first | (simp; done) | (simp; omega))
                intro _
                repeat (first | refine awp_seq ?_ | refine then_n ?_ | refine then_r ?_ | refine then_x ?_ | refine block_n ?_ | refine block_r ?_ | refine block_x ?_ | refine u_y ?_ | refine loop_r ?_ | refine loop_x ?_ | refine awp_region ?_ | refine awpL_nil ?_ | refine awpQL_nil ?_ | refine awp_block ?_ | refine awp_skip ?_ | refine awp_exit ?_ | refine awp_label ?_ | refine u_dT ?_ | refine u_d ?_ | refine u_l ?_ | refine u_o ?_ | refine u_q ?_ | refine u_lr ?_ | refine u_qr ?_ | refine u_ls ?_ | refine u_qs ?_ | refine u_t ?_ | refine u_f ?_ | refine v_s ?_ | refine v_o ?_ | refine v_on ?_ | refine v_og ?_ | refine v_q ?_ | refine v_sr ?_ | refine v_k ?_ | refine m_nil ?_)
                refine loop_n (i + 1) (by omega) ?_ rfl (by omega)
                rw [hsucc]
                ((repeat (first | exact trivial | (refine ⟨?_, ?_⟩; (focus (first | rfl | (simp [lk, argsS, args0]; done) | (simp [lk, argsS, args0]; omega)))))))
        · have : i = N := by omega
          subst this
          cases hal : aloB F K a k i
          · repeat (first | refine awp_seq ?_ | refine then_n ?_ | refine then_r ?_ | refine then_x ?_ | refine block_n ?_ | refine block_r ?_ | refine block_x ?_ | refine u_y ?_ | refine loop_r ?_ | refine loop_x ?_ | refine awp_region ?_ | refine awpL_nil ?_ | refine awpQL_nil ?_ | refine awp_block ?_ | refine awp_skip ?_ | refine awp_exit ?_ | refine awp_label ?_ | refine u_dT ?_ | refine u_d ?_ | refine u_l ?_ | refine u_o ?_ | refine u_q ?_ | refine u_lr ?_ | refine u_qr ?_ | refine u_ls ?_ | refine u_qs ?_ | refine u_t ?_ | refine u_f ?_ | refine v_s ?_ | refine v_o ?_ | refine v_on ?_ | refine v_og ?_ | refine v_q ?_ | refine v_sr ?_ | refine v_k ?_ | refine m_nil ?_)
            refine u_sl ?_ ?_
            · intro hb; exact absurd hb (by first | (simp; done) | (simp; omega))
            intro _
            repeat (first | refine awp_seq ?_ | refine then_n ?_ | refine then_r ?_ | refine then_x ?_ | refine block_n ?_ | refine block_r ?_ | refine block_x ?_ | refine u_y ?_ | refine loop_r ?_ | refine loop_x ?_ | refine awp_region ?_ | refine awpL_nil ?_ | refine awpQL_nil ?_ | refine awp_block ?_ | refine awp_skip ?_ | refine awp_exit ?_ | refine awp_label ?_ | refine u_dT ?_ | refine u_d ?_ | refine u_l ?_ | refine u_o ?_ | refine u_q ?_ | refine u_lr ?_ | refine u_qr ?_ | refine u_ls ?_ | refine u_qs ?_ | refine u_t ?_ | refine u_f ?_ | refine v_s ?_ | refine v_o ?_ | refine v_on ?_ | refine v_og ?_ | refine v_q ?_ | refine v_sr ?_ | refine v_k ?_ | refine m_nil ?_)
            refine loop_n (k + 1) ⟨by omega, fun g h => ?_⟩ ?_ rfl (by omega)
            · by_cases e : g = k
              · subst e; exact hal
              · exact hg g (by omega)
            · ((repeat (first | exact trivial | (refine ⟨?_, ?_⟩; (focus (first | rfl | (simp [lk, argsS, args0]; done) | (simp [lk, argsS, args0]; omega)))))))
          · have hn : need i M F K a = true := List.any_eq_true.2 ⟨k, List.mem_range.2 hlt, hal⟩
            repeat (first | refine awp_seq ?_ | refine then_n ?_ | refine then_r ?_ | refine then_x ?_ | refine block_n ?_ | refine block_r ?_ | refine block_x ?_ | refine u_y ?_ | refine loop_r ?_ | refine loop_x ?_ | refine awp_region ?_ | refine awpL_nil ?_ | refine awpQL_nil ?_ | refine awp_block ?_ | refine awp_skip ?_ | refine awp_exit ?_ | refine awp_label ?_ | refine u_dT ?_ | refine u_d ?_ | refine u_l ?_ | refine u_o ?_ | refine u_q ?_ | refine u_lr ?_ | refine u_qr ?_ | refine u_ls ?_ | refine u_qs ?_ | refine u_t ?_ | refine u_f ?_ | refine v_s ?_ | refine v_o ?_ | refine v_on ?_ | refine v_og ?_ | refine v_q ?_ | refine v_sr ?_ | refine v_k ?_ | refine m_nil ?_)
            refine u_sl ?_ ?_
            · intro hb; exact absurd hb (by first | (simp; done) | (simp; omega))
            intro _
            repeat (first | refine awp_seq ?_ | refine then_n ?_ | refine then_r ?_ | refine then_x ?_ | refine block_n ?_ | refine block_r ?_ | refine block_x ?_ | refine u_y ?_ | refine loop_r ?_ | refine loop_x ?_ | refine awp_region ?_ | refine awpL_nil ?_ | refine awpQL_nil ?_ | refine awp_block ?_ | refine awp_skip ?_ | refine awp_exit ?_ | refine awp_label ?_ | refine u_dT ?_ | refine u_d ?_ | refine u_l ?_ | refine u_o ?_ | refine u_q ?_ | refine u_lr ?_ | refine u_qr ?_ | refine u_ls ?_ | refine u_qs ?_ | refine u_t ?_ | refine u_f ?_ | refine v_s ?_ | refine v_o ?_ | refine v_on ?_ | refine v_og ?_ | refine v_q ?_ | refine v_sr ?_ | refine v_k ?_ | refine m_nil ?_)
            (refine awp_ret ?_; (repeat (first | refine then_r ?_ | refine block_r ?_ | refine loop_r ?_)); apply ret_ok (.inr rfl); (focus exact rfl))
            rw [hn]
    · have : k = M := by omega
      subst this
      have hn : need N k F K a = false := by
        unfold need
        rw [List.any_eq_false]
        intro g hgm
        simp [hg g (List.mem_range.1 hgm)]
      repeat (first | refine awp_seq ?_ | refine then_n ?_ | refine then_r ?_ | refine then_x ?_ | refine block_n ?_ | refine block_r ?_ | refine block_x ?_ | refine u_y ?_ | refine loop_r ?_ | refine loop_x ?_ | refine awp_region ?_ | refine awpL_nil ?_ | refine awpQL_nil ?_ | refine awp_block ?_ | refine awp_skip ?_ | refine awp_exit ?_ | refine awp_label ?_ | refine u_dT ?_ | refine u_d ?_ | refine u_l ?_ | refine u_o ?_ | refine u_q ?_ | refine u_lr ?_ | refine u_qr ?_ | refine u_ls ?_ | refine u_qs ?_ | refine u_t ?_ | refine u_f ?_ | refine v_s ?_ | refine v_o ?_ | refine v_on ?_ | refine v_og ?_ | refine v_q ?_ | refine v_sr ?_ | refine v_k ?_ | refine m_nil ?_)
      (refine awp_ret ?_; (repeat (first | refine then_r ?_ | refine block_r ?_ | refine loop_r ?_)); apply ret_ok (.inr rfl); (focus exact rfl))
      rw [hn]

/-- What ShrinkSuite answers. -/
def shF (s o : Int) (nx ou ws : List (List Int)) : Nat → Bool := kp ws.length (mutN s o nx.length).toNat (kW s o nx ou ws) ws.length
def shD (s o : Int) (nx ou ws : List (List Int)) : List (List Int) × Int :=
  if machOk s o nx ou then (if suiteOk nx.length ws then (kepL ws (shF s o nx ou ws) ws.length, 0) else ([], 2)) else ([], 1)

theorem rowB_kp {N M : Nat} {F : Nat → Nat → Bool} {j : Nat} : (rowB N (kp N M F j)).set (N - 1 - j) (.bool (need N M F (kp N M F j) (N - 1 - j))) = rowB N (kp N M F (j + 1)) := by
  rw [rowB_set]
  rfl

theorem spec_ShrinkSuite {s o : Int} {nx ou ws : List (List Int)} (h1 : RowsOk nx) (h2 : RowsOk ou) (h3 : RowsOk ws) :
    AC Try.prog 24 [mach s o nx ou, rows ws] (.tup [rows (shD s o nx ou ws).1, .int .i64 (shD s o nx ou ws).2]) := by
  have e1 := spec_l07Given (s := s) (o := o) h1 h2 h3
  unfold shD
  by_cases hv : machOk s o nx ou = true
  · rw [if_pos hv] at e1 ⊢
    by_cases hr : suiteOk nx.length ws = true
    · rw [if_pos hr] at e1 ⊢
      obtain ⟨q1, q2⟩ := suite_of hr
      have m := mv_of hv
      have hb := mutN_bounds m.s1 m.o1 m.n1.2
      have e2 := spec_l07Table m ⟨q1, q2⟩
      have hle : (List.map ints ws).length = ws.length := by simp
      unfold shF
      have hM : (mutN s o nx.length).toNat ≤ 1000 := by omega
      generalize (mutN s o nx.length).toNat = M at *
      generalize kW s o nx ou ws = F at *
      have hz : List.replicate ((ws.length : Nat) : Int).toNat (D.bool false) = rowB ws.length fun k => decide (k < 0) := by
        rw [Int.toNat_natCast, rowB_rep]
        exact rowB_congr fun k _ => by simp
      have hz' : List.replicate (((List.map ints ws).length : Nat) : Int).toNat (D.bool false) = rowB ws.length fun k => decide (k < 0) := by rw [hle]; exact hz
      have hrl : ∀ G, (rowB ws.length G).length = ws.length := fun G => by simp
      unfold mach at *
      refine ac_intro tabIs _ Try.func24 rfl rfl Try.ntmps24 rfl rfl fun w0 ok0 => ?_
      repeat (first | refine awp_seq ?_ | refine then_n ?_ | refine then_r ?_ | refine then_x ?_ | refine block_n ?_ | refine block_r ?_ | refine block_x ?_ | refine u_y ?_ | refine loop_r ?_ | refine loop_x ?_ | refine awp_region ?_ | refine awpL_nil ?_ | refine awpQL_nil ?_ | refine awp_block ?_ | refine awp_skip ?_ | refine awp_exit ?_ | refine awp_label ?_ | refine u_dT ?_ | refine u_d ?_ | ((first | apply c_l | apply c_q | apply c_lr | apply c_qr); (iterate 2 exact rfl); (focus (first | exact e1 | exact e2)); (iterate 2 exact rfl)) | (apply v_c; (iterate 4 exact rfl); (focus (first | exact e1 | exact e2)); (iterate 2 exact rfl)) | refine u_l ?_ | refine u_o ?_ | refine u_q ?_ | refine u_lr ?_ | refine u_qr ?_ | refine u_ls ?_ | refine u_qs ?_ | refine u_t ?_ | refine u_f ?_ | refine v_s ?_ | refine v_o ?_ | refine v_on ?_ | refine v_og ?_ | refine v_q ?_ | refine v_sr ?_ | refine v_k ?_ | refine m_nil ?_)
      refine awp_loop (fun i : Nat => i ≤ ws.length) (fun i => [(1, .d (rows ws)), (7, .d (.lst ((tabB ws.length M F).map D.lst))), (8, .own 23), (9, .d (.int .i64 i))]) (fun i => [(23, .arr 4 1 (rowB ws.length fun k => decide (k < i)))]) (fun i => ws.length - i) 0 (by omega) ?_ ?_ ?_
      · ((repeat (first | exact trivial | (refine ⟨?_, ?_⟩; (focus (first | rfl | (simp [lk, argsS, args0]; done) | (simp [lk, argsS, args0]; omega)))))))
      · rw [← hz']; rfl
      · intro i hi
        have hl1 := hrl fun k => decide (k < i)
        by_cases hlt : i < ws.length
        · have hs1 := rowB_set (M := ws.length) (k := i) (F := fun k => decide (k < i)) (v := true)
          have hs2 : (rowB ws.length fun g => if g = i then true else decide (g < i)) = rowB ws.length fun k => decide (k < i + 1) := rowB_congr fun k _ => by
            by_cases h : k = i
            · subst h; simp
            · by_cases h' : k < i
              · simp [h', show k < i + 1 by omega]
              · simp [h, h', show ¬ k < i + 1 by omega]
          rw [hs2] at hs1
          repeat (first | refine awp_seq ?_ | refine then_n ?_ | refine then_r ?_ | refine then_x ?_ | refine block_n ?_ | refine block_r ?_ | refine block_x ?_ | refine u_y ?_ | refine loop_r ?_ | refine loop_x ?_ | refine awp_region ?_ | refine awpL_nil ?_ | refine awpQL_nil ?_ | refine awp_block ?_ | refine awp_skip ?_ | refine awp_exit ?_ | refine awp_label ?_ | refine u_dT ?_ | refine u_d ?_ | refine u_l ?_ | refine u_o ?_ | refine u_q ?_ | refine u_lr ?_ | refine u_qr ?_ | refine u_ls ?_ | refine u_qs ?_ | refine u_t ?_ | refine u_f ?_ | refine v_s ?_ | refine v_o ?_ | refine v_on ?_ | refine v_og ?_ | refine v_q ?_ | refine v_sr ?_ | refine v_k ?_ | refine m_nil ?_)
          refine loop_n (i + 1) (by omega) ?_ ?_ (by omega)
          · ((repeat (first | exact trivial | (refine ⟨?_, ?_⟩; (focus (first | rfl | (simp [lk, argsS, args0]; done) | (simp [lk, argsS, args0]; omega)))))))
          · rw [← hs1]; rfl
        · have : i = ws.length := by omega
          subst this
          have h0 : (rowB ws.length fun k => decide (k < ws.length)) = rowB ws.length (kp ws.length M F 0) := rowB_congr fun k hk => by simp [kp, hk]
          rw [h0]
          repeat (first | refine awp_seq ?_ | refine then_n ?_ | refine then_r ?_ | refine then_x ?_ | refine block_n ?_ | refine block_r ?_ | refine block_x ?_ | refine u_y ?_ | refine loop_r ?_ | refine loop_x ?_ | refine awp_region ?_ | refine awpL_nil ?_ | refine awpQL_nil ?_ | refine awp_block ?_ | refine awp_skip ?_ | refine awp_exit ?_ | refine awp_label ?_ | refine u_dT ?_ | refine u_d ?_ | refine u_l ?_ | refine u_o ?_ | refine u_q ?_ | refine u_lr ?_ | refine u_qr ?_ | refine u_ls ?_ | refine u_qs ?_ | refine u_t ?_ | refine u_f ?_ | refine v_s ?_ | refine v_o ?_ | refine v_on ?_ | refine v_og ?_ | refine v_q ?_ | refine v_sr ?_ | refine v_k ?_ | refine m_nil ?_)
          refine awp_loop (fun j : Nat => j ≤ ws.length) (fun j => [(1, .d (rows ws)), (7, .d (.lst ((tabB ws.length M F).map D.lst))), (8, .own 23), (10, .d (.int .i64 ((ws.length : Int) - 1 - j)))]) (fun j => [(23, .arr 4 1 (rowB ws.length (kp ws.length M F j)))]) (fun j => ws.length - j) 0 (by omega) ?_ rfl ?_
          · refine ⟨rfl, rfl, rfl, ?_, trivial⟩
            show SV.d (.int .i64 (((List.map ints ws).length : Int) - 1)) = _
            rw [hle]; simp
          · intro j hj
            have hl2 := hrl (kp ws.length M F j)
            by_cases hjl : j < ws.length
            · have hidx : ((ws.length : Int) - 1 - j) = ((ws.length - 1 - j : Nat) : Int) := by omega
              have hnx : ((ws.length : Int) - 1 - j) - 1 = (ws.length : Int) - 1 - ((j + 1 : Nat) : Int) := by omega
              have e3 := spec_l07Needed (N := ws.length) (M := M) (a := ws.length - 1 - j) (F := F) (K := kp ws.length M F j) (by omega) (by omega) hM
              rw [← hidx] at e3
              have hkp := rowB_kp (N := ws.length) (M := M) (F := F) (j := j)
              have hix : ((ws.length : Int) - 1 - j).toNat = ws.length - 1 - j := by omega
              repeat (first | refine awp_seq ?_ | refine then_n ?_ | refine then_r ?_ | refine then_x ?_ | refine block_n ?_ | refine block_r ?_ | refine block_x ?_ | refine u_y ?_ | refine loop_r ?_ | refine loop_x ?_ | refine awp_region ?_ | refine awpL_nil ?_ | refine awpQL_nil ?_ | refine awp_block ?_ | refine awp_skip ?_ | refine awp_exit ?_ | refine awp_label ?_ | refine u_dT ?_ | refine u_d ?_ | ((first | apply c_l | apply c_q | apply c_lr | apply c_qr); (iterate 2 exact rfl); (focus (first | exact e3)); (iterate 2 exact rfl)) | (apply v_c; (iterate 4 exact rfl); (focus (first | exact e3)); (iterate 2 exact rfl)) | refine u_l ?_ | refine u_o ?_ | refine u_q ?_ | refine u_lr ?_ | refine u_qr ?_ | refine u_ls ?_ | refine u_qs ?_ | refine u_t ?_ | refine u_f ?_ | refine v_s ?_ | refine v_o ?_ | refine v_on ?_ | refine v_og ?_ | refine v_q ?_ | refine v_sr ?_ | refine v_k ?_ | refine m_nil ?_)
              refine loop_n (j + 1) (by omega) ?_ ?_ (by omega)
              · rw [← hnx]; ((repeat (first | exact trivial | (refine ⟨?_, ?_⟩; (focus (first | rfl | (simp [lk, argsS, args0]; done) | (simp [lk, argsS, args0]; omega)))))))
              · rw [← hkp, ← hix]; rfl
            · have : j = ws.length := by omega
              subst this
              repeat (first | refine v_w (t := 47) ?_ | refine awp_seq ?_ | refine then_n ?_ | refine then_r ?_ | refine then_x ?_ | refine block_n ?_ | refine block_r ?_ | refine block_x ?_ | refine u_y ?_ | refine loop_r ?_ | refine loop_x ?_ | refine awp_region ?_ | refine awpL_nil ?_ | refine awpQL_nil ?_ | refine awp_block ?_ | refine awp_skip ?_ | refine awp_exit ?_ | refine awp_label ?_ | refine u_dT ?_ | refine u_d ?_ | refine u_w (t := 47) ?_ | refine u_l ?_ | refine u_o ?_ | refine u_q ?_ | refine u_lr ?_ | refine u_qr ?_ | refine u_ls ?_ | refine u_qs ?_ | refine u_t ?_ | refine u_f ?_ | refine v_s ?_ | refine v_o ?_ | refine v_on ?_ | refine v_og ?_ | refine v_q ?_ | refine v_sr ?_ | refine v_k ?_ | refine m_nil ?_)
              refine awp_loop (fun i : Nat => i ≤ ws.length) (fun i => [(1, .d (rows ws)), (8, .own 23), (11, .own 47), (12, .d (.int .i64 i))]) (fun i => [(47, .arr 31 1 ((kepL ws (kp ws.length M F ws.length) i).map ints)), (23, .arr 4 1 (rowB ws.length (kp ws.length M F ws.length)))]) (fun i => ws.length - i) 0 (by omega) ?_ rfl ?_
              · ((repeat (first | exact trivial | (refine ⟨?_, ?_⟩; (focus (first | rfl | (simp [lk, argsS, args0]; done) | (simp [lk, argsS, args0]; omega)))))))
              · intro i hi
                have hkl := kepL_len (ws := ws) (K := kp ws.length M F ws.length) i
                have hkm : ((kepL ws (kp ws.length M F ws.length) i).map ints).length = (kepL ws (kp ws.length M F ws.length) i).length := by simp
                by_cases hil : i < ws.length
                · have hel : (List.map ints ws)[(i : Int).toNat]? = some (ints ws[i]) := by simp [hil]
                  have hkk := rowB_get (F := kp ws.length M F ws.length) hil
                  have e4 : AC Try.prog 66 [ints ws[i]] (ints ws[i]) := ac_of_hc (xs := [ints ws[i]]) (d := ints ws[i]) (spec_l00OwnH (ns := ws[i]) (by have := (q2 _ (List.getElem_mem hil)).1; omega)) rfl
                  have hstep : kepL ws (kp ws.length M F ws.length) (i + 1) = kepL ws (kp ws.length M F ws.length) i ++ if kp ws.length M F ws.length i then [ws[i]] else [] := by
                    show _ ++ (if _ then [ws.getD i []] else []) = _
                    rw [List.getD_eq_getElem?_getD, List.getElem?_eq_getElem hil, Option.getD_some]
                  cases hki : kp ws.length M F ws.length i
                  · rw [hki] at hkk hstep
                    simp only [Bool.false_eq_true, if_false, List.append_nil] at hstep
                    repeat (first | refine awp_seq ?_ | refine then_n ?_ | refine then_r ?_ | refine then_x ?_ | refine block_n ?_ | refine block_r ?_ | refine block_x ?_ | refine u_y ?_ | refine loop_r ?_ | refine loop_x ?_ | refine awp_region ?_ | refine awpL_nil ?_ | refine awpQL_nil ?_ | refine awp_block ?_ | refine awp_skip ?_ | refine awp_exit ?_ | refine awp_label ?_ | refine u_dT ?_ | refine u_d ?_ | ((first | apply c_l | apply c_q | apply c_lr | apply c_qr); (iterate 2 exact rfl); (focus (first | exact e4)); (iterate 2 exact rfl)) | (apply v_c; (iterate 4 exact rfl); (focus (first | exact e4)); (iterate 2 exact rfl)) | refine u_l ?_ | refine u_o ?_ | refine u_q ?_ | refine u_lr ?_ | refine u_qr ?_ | refine u_ls ?_ | refine u_qs ?_ | refine u_t ?_ | refine u_f ?_ | refine v_s ?_ | refine v_o ?_ | refine v_on ?_ | refine v_og ?_ | refine v_q ?_ | refine v_sr ?_ | refine v_k ?_ | refine m_nil ?_)
                    refine loop_n (i + 1) (by omega) ?_ ?_ (by omega)
                    · ((repeat (first | exact trivial | (refine ⟨?_, ?_⟩; (focus (first | rfl | (simp [lk, argsS, args0]; done) | (simp [lk, argsS, args0]; omega)))))))
                    · rw [hstep]
                  · rw [hki] at hkk hstep
                    simp only [if_true] at hstep
                    repeat (first | refine awp_seq ?_ | refine then_n ?_ | refine then_r ?_ | refine then_x ?_ | refine block_n ?_ | refine block_r ?_ | refine block_x ?_ | refine u_y ?_ | refine loop_r ?_ | refine loop_x ?_ | refine awp_region ?_ | refine awpL_nil ?_ | refine awpQL_nil ?_ | refine awp_block ?_ | refine awp_skip ?_ | refine awp_exit ?_ | refine awp_label ?_ | refine u_dT ?_ | refine u_d ?_ | ((first | apply c_l | apply c_q | apply c_lr | apply c_qr); (iterate 2 exact rfl); (focus (first | exact e4)); (iterate 2 exact rfl)) | (apply v_c; (iterate 4 exact rfl); (focus (first | exact e4)); (iterate 2 exact rfl)) | refine u_l ?_ | refine u_o ?_ | refine u_q ?_ | refine u_lr ?_ | refine u_qr ?_ | refine u_ls ?_ | refine u_qs ?_ | refine u_t ?_ | refine u_f ?_ | refine v_s ?_ | refine v_o ?_ | refine v_on ?_ | refine v_og ?_ | refine v_q ?_ | refine v_sr ?_ | refine v_k ?_ | refine m_nil ?_)
                    refine loop_n (i + 1) (by omega) ?_ ?_ (by omega)
                    · ((repeat (first | exact trivial | (refine ⟨?_, ?_⟩; (focus (first | rfl | (simp [lk, argsS, args0]; done) | (simp [lk, argsS, args0]; omega)))))))
                    · rw [hstep]; simp [killH, keepH, memB, Chunk.mapc]
                · have : i = ws.length := by omega
                  subst this
                  repeat (first | refine awp_seq ?_ | refine then_n ?_ | refine then_r ?_ | refine then_x ?_ | refine block_n ?_ | refine block_r ?_ | refine block_x ?_ | refine u_y ?_ | refine loop_r ?_ | refine loop_x ?_ | refine awp_region ?_ | refine awpL_nil ?_ | refine awpQL_nil ?_ | refine awp_block ?_ | refine awp_skip ?_ | refine awp_exit ?_ | refine awp_label ?_ | refine u_dT ?_ | refine u_d ?_ | refine u_l ?_ | refine u_o ?_ | refine u_q ?_ | refine u_lr ?_ | refine u_qr ?_ | refine u_ls ?_ | refine u_qs ?_ | refine u_t ?_ | refine u_f ?_ | refine v_s ?_ | refine v_o ?_ | refine v_on ?_ | refine v_og ?_ | refine v_q ?_ | refine v_sr ?_ | refine v_k ?_ | refine m_nil ?_)
                  (refine awp_ret ?_; (repeat (first | refine then_r ?_ | refine block_r ?_ | refine loop_r ?_)); apply ret_ok (.inr rfl); (focus exact rfl))
                  rfl
    · rw [if_neg hr] at e1 ⊢
      unfold mach at *
      refine ac_intro tabIs _ Try.func24 rfl rfl Try.ntmps24 rfl rfl fun w0 ok0 => ?_
      repeat (first | refine awp_seq ?_ | refine then_n ?_ | refine then_r ?_ | refine then_x ?_ | refine block_n ?_ | refine block_r ?_ | refine block_x ?_ | refine u_y ?_ | refine loop_r ?_ | refine loop_x ?_ | refine awp_region ?_ | refine awpL_nil ?_ | refine awpQL_nil ?_ | refine awp_block ?_ | refine awp_skip ?_ | refine awp_exit ?_ | refine awp_label ?_ | refine u_dT ?_ | refine u_d ?_ | ((first | apply c_l | apply c_q | apply c_lr | apply c_qr); (iterate 2 exact rfl); (focus (first | exact e1)); (iterate 2 exact rfl)) | (apply v_c; (iterate 4 exact rfl); (focus (first | exact e1)); (iterate 2 exact rfl)) | refine u_l ?_ | refine u_o ?_ | refine u_q ?_ | refine u_lr ?_ | refine u_qr ?_ | refine u_ls ?_ | refine u_qs ?_ | refine u_t ?_ | refine u_f ?_ | refine v_s ?_ | refine v_o ?_ | refine v_on ?_ | refine v_og ?_ | refine v_q ?_ | refine v_sr ?_ | refine v_k ?_ | refine m_nil ?_)
      (refine awp_ret ?_; (repeat (first | refine then_r ?_ | refine block_r ?_ | refine loop_r ?_)); apply ret_ok (.inr rfl); (focus exact rfl))
      rfl
  · rw [if_neg hv] at e1 ⊢
    unfold mach at *
    refine ac_intro tabIs _ Try.func24 rfl rfl Try.ntmps24 rfl rfl fun w0 ok0 => ?_
    repeat (first | refine awp_seq ?_ | refine then_n ?_ | refine then_r ?_ | refine then_x ?_ | refine block_n ?_ | refine block_r ?_ | refine block_x ?_ | refine u_y ?_ | refine loop_r ?_ | refine loop_x ?_ | refine awp_region ?_ | refine awpL_nil ?_ | refine awpQL_nil ?_ | refine awp_block ?_ | refine awp_skip ?_ | refine awp_exit ?_ | refine awp_label ?_ | refine u_dT ?_ | refine u_d ?_ | ((first | apply c_l | apply c_q | apply c_lr | apply c_qr); (iterate 2 exact rfl); (focus (first | exact e1)); (iterate 2 exact rfl)) | (apply v_c; (iterate 4 exact rfl); (focus (first | exact e1)); (iterate 2 exact rfl)) | refine u_l ?_ | refine u_o ?_ | refine u_q ?_ | refine u_lr ?_ | refine u_qr ?_ | refine u_ls ?_ | refine u_qs ?_ | refine u_t ?_ | refine u_f ?_ | refine v_s ?_ | refine v_o ?_ | refine v_on ?_ | refine v_og ?_ | refine v_q ?_ | refine v_sr ?_ | refine v_k ?_ | refine m_nil ?_)
    (refine awp_ret ?_; (repeat (first | refine then_r ?_ | refine block_r ?_ | refine loop_r ?_)); apply ret_ok (.inr rfl); (focus exact rfl))
    rfl

end Go.Proofs.Ythcaccakbmooeaa
