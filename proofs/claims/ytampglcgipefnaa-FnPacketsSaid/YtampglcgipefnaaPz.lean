/- A drawn lit automaton. No condition. -/
import Derived.Test.YtampglcgipefnaaOy
namespace Go.Proofs.Ytampglcgipefnaa
open Go
attribute [local irreducible] awp awpL awpQL awpQ awpM pWalk Qt AC thenQ blockQ loopQ OpTo
set_option linter.unusedVariables false
set_option linter.unusedSimpArgs false
set_option maxHeartbeats 2000000
attribute [local irreducible] HC

def lpK (code : List Int) (lm : Int) (s : Src) : Nat → List Int × Src
  | 0 => ([], s)
  | i + 1 => ((lpK code lm s i).1 ++ [pickV code lm (lpK code lm s i).2], pickS code lm (lpK code lm s i).2)
theorem lpK_len {code : List Int} {lm : Int} {s : Src} : ∀ i, (lpK code lm s i).1.length = i
  | 0 => rfl
  | i + 1 => by have := lpK_len (code := code) (lm := lm) (s := s) i; simp [lpK, this]
theorem lpK_ok {code : List Int} {lm : Int} {s : Src} {k : Nat} (h : SOk s k) : ∀ i, SOk (lpK code lm s i).2 (k + 2 * i)
  | 0 => h
  | i + 1 => (pick_ok (lpK_ok h i)).mono (by omega)
theorem lpK_el {code : List Int} {lm : Int} {s : Src} (hb : BytesOk code) (hl : 1 ≤ lm) : ∀ i, ∀ v ∈ (lpK code lm s i).1, 0 ≤ v ∧ v < lm
  | 0 => fun v h => by cases h
  | i + 1 => fun v h => by
    rcases List.mem_append.1 h with h | h
    · exact lpK_el hb hl i v h
    · simp only [List.mem_singleton] at h; subst h; exact pick_range hb hl
/-- The drawn automaton: states, rows, the source behind it. -/
def drR (code : List Int) (s : Src) : List (List Int) × Src := rwsK code (dnN code 5 s).1 (dnL code (dnN code 5 s).2).2 (dnL code (dnN code 5 s).2).1.toNat
def drA (code : List Int) (s : Src) : Int × List (List Int) × Src :=
  if pickV code 4 (drR code s).2 = 0 then
    (2 + pickV code 4 (pickS code 4 (drR code s).2), [slT (2 + pickV code 4 (pickS code 4 (drR code s).2)) (2 + pickV code 4 (pickS code 4 (drR code s).2)).toNat, slY (2 + pickV code 4 (pickS code 4 (drR code s).2)) (2 + pickV code 4 (pickS code 4 (drR code s).2)).toNat], pickS code 4 (pickS code 4 (drR code s).2))
  else ((dnN code 5 s).1, (drR code s).1, pickS code 4 (drR code s).2)
def drLm (code : List Int) (s : Src) : Int := 1 + pickV code 3 (drA code s).2.2
def drP (code : List Int) (s : Src) : List Int × Src := lpK code (drLm code s) (pickS code 3 (drA code s).2.2) (drA code s).1.toNat
theorem slT_el {n : Int} (hn : 2 ≤ n) : ((slT n n.toNat).length : Int) = n ∧ ∀ v ∈ slT n n.toNat, 0 ≤ v ∧ v < n := by
  refine ⟨by simp [slT]; omega, fun v hv => ?_⟩
  obtain ⟨y, _, rfl⟩ := List.mem_map.1 hv
  exact ⟨Int.emod_nonneg _ (by omega), Int.emod_lt_of_pos _ (by omega)⟩
theorem slY_el {n : Int} (hn : 2 ≤ n) : ((slY n n.toNat).length : Int) = n ∧ ∀ v ∈ slY n n.toNat, 0 ≤ v ∧ v < n := by
  refine ⟨by simp [slY]; omega, fun v hv => ?_⟩
  obtain ⟨y, _, rfl⟩ := List.mem_map.1 hv
  have := Int.emod_lt_of_pos (y : Int) (show 0 < n - 1 by omega)
  exact ⟨Int.emod_nonneg _ (by omega), by omega⟩
theorem drA_ok {code : List Int} {s : Src} (hb : BytesOk code) : (1 ≤ (drA code s).1 ∧ (drA code s).1 ≤ 5) ∧ (1 ≤ (drA code s).2.1.length ∧ (drA code s).2.1.length ≤ 3) ∧ Tbl (drA code s).1 (drA code s).1 (drA code s).2.1 := by
  have hN := dnN_range (s := s) (most := 5) hb (by omega)
  have hL := dnL_range (s := (dnN code 5 s).2) hb
  have hp := pick_range (s := pickS code 4 (drR code s).2) (n := 4) hb (by omega)
  unfold drA
  split
  · dsimp only
    have hn : 2 ≤ 2 + pickV code 4 (pickS code 4 (drR code s).2) ∧ 2 + pickV code 4 (pickS code 4 (drR code s).2) ≤ 5 := by omega
    generalize 2 + pickV code 4 (pickS code 4 (drR code s).2) = n at *
    refine ⟨by omega, by simp, fun ns h => ?_⟩
    simp at h
    rcases h with rfl | rfl
    · exact slT_el hn.1
    · exact slY_el hn.1
  · refine ⟨hN, ?_, ?_⟩
    · show 1 ≤ (drR code s).1.length ∧ (drR code s).1.length ≤ 3
      unfold drR
      rw [rwsK_len]
      omega
    · exact rwsK_el hb hN.1 _
theorem drA_src {code : List Int} {s : Src} {k : Nat} (hb : BytesOk code) (h : SOk s k) : SOk (drA code s).2.2 (k + 200) := by
  have hN := dnN_range (s := s) (most := 5) hb (by omega)
  have hL := dnL_range (s := (dnN code 5 s).2) hb
  have h1 := rwsK_ok (code := code) (dnL_ok (code := code) (dnN_ok (code := code) (most := 5) h)) (n := (dnN code 5 s).1) (by omega) (dnL code (dnN code 5 s).2).1.toNat
  have h2 := pick_ok (code := code) (n := 4) h1
  have h3 := pick_ok (code := code) (n := 4) h2
  unfold drA
  split
  · refine SOk.mono h3 ?_; omega
  · refine SOk.mono h2 ?_; omega

theorem spec_l08Drawn {code : List Int} {s : Src} {k : Nat} (hb : BytesOk code) (h : SOk s k) (hk : k ≤ 999990000) :
    HC Try.prog 25 [.ref 10000 0] [(10000, srcB code s)] (.agg [.d (.int .i64 (drA code s).1), .d (rows (drA code s).2.1), .own 30000]) [(10000, srcB code (drP code s).2), (30000, .arr 2 1 ((drP code s).1.map (.int .i64)))] := by
  have hP : ∀ (s : Src) (k : Nat) (n : Int), SOk s k → k ≤ 999999990 → n ≤ 1000 → HC Try.prog 63 [.ref 10000 0, .d (.int .i64 n)] [(10000, srcB code s)] (.d (.int .i64 (pickV code n s))) [(10000, srcB code (pickS code n s))] := fun s k n a b c => spec_pick hb a b (by omega)
  have hQ : ∀ (s : Src) (k : Nat) (n : Int), SOk s k → k ≤ 999999990 → n ≤ 1000 → HC Try.prog 33 [.ref 10000 0, .d (.int .i64 n)] [(10000, srcB code s)] (.d (.bool (decide (pickV code n s = 0)))) [(10000, srcB code (pickS code n s))] := fun s k n a b c => spec_one hb a b (by omega)
  have hN := dnN_range (s := s) (most := 5) hb (by omega)
  have hL := dnL_range (s := (dnN code 5 s).2) hb
  have h1 := rwsK_ok (code := code) (dnL_ok (code := code) (dnN_ok (code := code) (most := 5) h)) (n := (dnN code 5 s).1) (by omega) (dnL code (dnN code 5 s).2).1.toNat
  have h2 := pick_ok (code := code) (n := 4) h1
  have hc1 := spec_l01Drawn (most := 5) hb (by omega) h (by omega)
  have hAs := drA_src hb h
  have hAo := drA_ok (s := s) hb
  have hc2 := hQ _ _ 4 h1 (by omega) (by omega)
  have hc3 := hP _ _ 4 h2 (by omega) (by omega)
  have hp4 := pick_range (s := pickS code 4 (drR code s).2) (n := 4) hb (by omega)
  have hAe : drA code s = if pickV code 4 (drR code s).2 = 0 then (2 + pickV code 4 (pickS code 4 (drR code s).2), [slT (2 + pickV code 4 (pickS code 4 (drR code s).2)) (2 + pickV code 4 (pickS code 4 (drR code s).2)).toNat, slY (2 + pickV code 4 (pickS code 4 (drR code s).2)) (2 + pickV code 4 (pickS code 4 (drR code s).2)).toNat], pickS code 4 (pickS code 4 (drR code s).2))
    else ((dnN code 5 s).1, (drR code s).1, pickS code 4 (drR code s).2) := rfl
  have e5 := spec_l02Slow (n := 2 + pickV code 4 (pickS code 4 (drR code s).2)) (by omega)
  unfold drP drLm
  rw [rws_dat] at hc1
  rw [show rwsK code (dnN code 5 s).1 (dnL code (dnN code 5 s).2).2 (dnL code (dnN code 5 s).2).1.toNat = drR code s from rfl] at hc1 h1 h2 hc2 hc3
  generalize drA code s = A at *
  generalize drR code s = R at *
  generalize (dnN code 5 s).1 = N at *
  unfold srcB at *
  refine hc_intro tabIs _ Try.func25 rfl rfl Try.ntmps25 rfl rfl rfl ?_ fun w0 ok0 XM XA anc => ?_
  · exact likeIn_cons rfl rfl likeIn_nil
  repeat (first | refine awp_seq ?_ | refine then_n ?_ | refine then_r ?_ | refine then_x ?_ | refine block_n ?_ | refine block_r ?_ | refine block_x ?_ | refine u_y ?_ | refine loop_r ?_ | refine loop_x ?_ | refine awp_region ?_ | refine awpL_nil ?_ | refine awpQL_nil ?_ | refine awp_block ?_ | refine awp_skip ?_ | refine awp_exit ?_ | refine awp_label ?_ | refine u_dT ?_ | refine u_d ?_ | refine u_l ?_ | refine u_o ?_ | refine u_q ?_ | refine u_lr ?_ | refine u_qr ?_ | refine u_ls ?_ | refine u_qs ?_ | refine u_t ?_ | refine u_f ?_ | refine v_s ?_ | refine v_o ?_ | refine v_on ?_ | refine v_og ?_ | refine v_q ?_ | refine v_sr ?_ | refine v_k ?_ | refine m_nil ?_)
  refine hcl [(10000, 10000)] [(10000, 10000)] hc1 ?_
  repeat (first | refine awp_seq ?_ | refine then_n ?_ | refine then_r ?_ | refine then_x ?_ | refine block_n ?_ | refine block_r ?_ | refine block_x ?_ | refine u_y ?_ | refine loop_r ?_ | refine loop_x ?_ | refine awpL_nil ?_ | refine awpQL_nil ?_ | refine awp_block ?_ | refine awp_skip ?_ | refine awp_exit ?_ | refine awp_label ?_ | refine u_dT ?_ | refine u_d ?_ | refine u_l ?_ | refine u_o ?_ | refine u_q ?_ | refine u_lr ?_ | refine u_qr ?_ | refine u_ls ?_ | refine u_qs ?_ | refine u_t ?_ | refine u_f ?_ | refine v_s ?_ | refine v_o ?_ | refine v_on ?_ | refine v_og ?_ | refine v_q ?_ | refine v_sr ?_ | refine v_k ?_ | refine m_nil ?_)
  refine awp_cut2 [(0, .ref 10000 0), (2, .ref 2 0), (3, .ref 3 0)] [(2, .box [.d (.int .i64 0), .d .nils, .d .nils]), (3, .box [.d (.int .i64 A.1), .d (rows A.2.1), .d .nils]), (10000, .box [.d (u8s code), .d (.int .i64 A.2.2.pos), .d (.int .u64 A.2.2.sd)])] ?_ ?_
  · refine awp_region ?_
    by_cases c1 : pickV code 4 R.2 = 0
    · rw [if_pos c1] at hAe
      subst hAe
      repeat (first | refine awp_seq ?_ | refine then_n ?_ | refine then_r ?_ | refine then_x ?_ | refine block_n ?_ | refine block_r ?_ | refine block_x ?_ | refine u_y ?_ | refine loop_r ?_ | refine loop_x ?_ | refine awp_region ?_ | refine awpL_nil ?_ | refine awpQL_nil ?_ | refine awp_block ?_ | refine awp_skip ?_ | refine awp_exit ?_ | refine awp_label ?_ | refine u_dT ?_ | refine u_d ?_ | refine u_l ?_ | refine u_o ?_ | refine u_q ?_ | refine u_lr ?_ | refine u_qr ?_ | refine u_ls ?_ | refine u_qs ?_ | refine u_t ?_ | refine u_f ?_ | refine v_s ?_ | refine v_o ?_ | refine v_on ?_ | refine v_og ?_ | refine v_q ?_ | refine v_sr ?_ | refine v_k ?_ | refine m_nil ?_)
      refine hcl [(10000, 10000)] [(10000, 10000)] hc2 ?_
      repeat (first | refine awp_seq ?_ | refine then_n ?_ | refine then_r ?_ | refine then_x ?_ | refine block_n ?_ | refine block_r ?_ | refine block_x ?_ | refine u_y ?_ | refine loop_r ?_ | refine loop_x ?_ | refine awp_region ?_ | refine awpL_nil ?_ | refine awpQL_nil ?_ | refine awp_block ?_ | refine awp_skip ?_ | refine awp_exit ?_ | refine awp_label ?_ | refine u_dT ?_ | refine u_d ?_ | refine u_l ?_ | refine u_o ?_ | refine u_q ?_ | refine u_lr ?_ | refine u_qr ?_ | refine u_ls ?_ | refine u_qs ?_ | refine u_t ?_ | refine u_f ?_ | refine v_s ?_ | refine v_o ?_ | refine v_on ?_ | refine v_og ?_ | refine v_q ?_ | refine v_sr ?_ | refine v_k ?_ | refine m_nil ?_ | refine u_glt ?_ | refine u_glf ?_ | refine u_gqt ?_ | refine u_gqf ?_)
      refine hcl [(10000, 10000)] [(10000, 10000)] hc3 ?_
      repeat (first | refine awp_seq ?_ | refine then_n ?_ | refine then_r ?_ | refine then_x ?_ | refine block_n ?_ | refine block_r ?_ | refine block_x ?_ | refine u_y ?_ | refine loop_r ?_ | refine loop_x ?_ | refine awp_region ?_ | refine awpL_nil ?_ | refine awpQL_nil ?_ | refine awp_block ?_ | refine awp_skip ?_ | refine awp_exit ?_ | refine awp_label ?_ | refine u_dT ?_ | refine u_d ?_ | ((first | apply c_l | apply c_q | apply c_lr | apply c_qr); (iterate 2 exact rfl); (focus (first | exact e5)); (iterate 2 exact rfl)) | (apply v_c; (iterate 4 exact rfl); (focus (first | exact e5)); (iterate 2 exact rfl)) | refine u_l ?_ | refine u_o ?_ | refine u_q ?_ | refine u_lr ?_ | refine u_qr ?_ | refine u_ls ?_ | refine u_qs ?_ | refine u_t ?_ | refine u_f ?_ | refine v_s ?_ | refine v_o ?_ | refine v_on ?_ | refine v_og ?_ | refine v_q ?_ | refine v_sr ?_ | refine v_k ?_ | refine m_nil ?_)
      exact ⟨by ((repeat (first | exact trivial | (refine ⟨?_, ?_⟩; (focus (first | rfl | (simp [lk, argsS, args0]; done) | (simp [lk, argsS, args0]; omega))))))), rfl⟩
    · rw [if_neg c1] at hAe
      subst hAe
      repeat (first | refine awp_seq ?_ | refine then_n ?_ | refine then_r ?_ | refine then_x ?_ | refine block_n ?_ | refine block_r ?_ | refine block_x ?_ | refine u_y ?_ | refine loop_r ?_ | refine loop_x ?_ | refine awp_region ?_ | refine awpL_nil ?_ | refine awpQL_nil ?_ | refine awp_block ?_ | refine awp_skip ?_ | refine awp_exit ?_ | refine awp_label ?_ | refine u_dT ?_ | refine u_d ?_ | refine u_l ?_ | refine u_o ?_ | refine u_q ?_ | refine u_lr ?_ | refine u_qr ?_ | refine u_ls ?_ | refine u_qs ?_ | refine u_t ?_ | refine u_f ?_ | refine v_s ?_ | refine v_o ?_ | refine v_on ?_ | refine v_og ?_ | refine v_q ?_ | refine v_sr ?_ | refine v_k ?_ | refine m_nil ?_)
      refine hcl [(10000, 10000)] [(10000, 10000)] hc2 ?_
      repeat (first | refine awp_seq ?_ | refine then_n ?_ | refine then_r ?_ | refine then_x ?_ | refine block_n ?_ | refine block_r ?_ | refine block_x ?_ | refine u_y ?_ | refine loop_r ?_ | refine loop_x ?_ | refine awp_region ?_ | refine awpL_nil ?_ | refine awpQL_nil ?_ | refine awp_block ?_ | refine awp_skip ?_ | refine awp_exit ?_ | refine awp_label ?_ | refine u_dT ?_ | refine u_d ?_ | refine u_l ?_ | refine u_o ?_ | refine u_q ?_ | refine u_lr ?_ | refine u_qr ?_ | refine u_ls ?_ | refine u_qs ?_ | refine u_t ?_ | refine u_f ?_ | refine v_s ?_ | refine v_o ?_ | refine v_on ?_ | refine v_og ?_ | refine v_q ?_ | refine v_sr ?_ | refine v_k ?_ | refine m_nil ?_ | refine u_glt ?_ | refine u_glf ?_ | refine u_gqt ?_ | refine u_gqf ?_)
      exact ⟨by ((repeat (first | exact trivial | (refine ⟨?_, ?_⟩; (focus (first | rfl | (simp [lk, argsS, args0]; done) | (simp [lk, argsS, args0]; omega))))))), rfl⟩
  · have hrl := pick_range (s := A.2.2) (n := 3) hb (by omega)
    have hq1 := hP _ _ 3 hAs (by omega) (by omega)
    have hk3 := pick_ok (code := code) (n := 3) hAs
    have hok := fun i => lpK_ok (code := code) (lm := 1 + pickV code 3 A.2.2) hk3 i
    have hlen := fun i => lpK_len (code := code) (lm := 1 + pickV code 3 A.2.2) (s := pickS code 3 A.2.2) i
    clear hc1 hc2 hc3 hAe e5
    repeat (first | refine awp_seq ?_ | refine then_n ?_ | refine then_r ?_ | refine then_x ?_ | refine block_n ?_ | refine block_r ?_ | refine block_x ?_ | refine u_y ?_ | refine loop_r ?_ | refine loop_x ?_ | refine awp_region ?_ | refine awpL_nil ?_ | refine awpQL_nil ?_ | refine awp_block ?_ | refine awp_skip ?_ | refine awp_exit ?_ | refine awp_label ?_ | refine u_dT ?_ | refine u_d ?_ | refine u_l ?_ | refine u_o ?_ | refine u_q ?_ | refine u_lr ?_ | refine u_qr ?_ | refine u_ls ?_ | refine u_qs ?_ | refine u_t ?_ | refine u_f ?_ | refine v_s ?_ | refine v_o ?_ | refine v_on ?_ | refine v_og ?_ | refine v_q ?_ | refine v_sr ?_ | refine v_k ?_ | refine m_nil ?_)
    refine hcl [(10000, 10000)] [(10000, 10000)] hq1 ?_
    repeat (first | refine awp_seq ?_ | refine then_n ?_ | refine then_r ?_ | refine then_x ?_ | refine block_n ?_ | refine block_r ?_ | refine block_x ?_ | refine u_y ?_ | refine loop_r ?_ | refine loop_x ?_ | refine awpL_nil ?_ | refine awpQL_nil ?_ | refine awp_block ?_ | refine awp_skip ?_ | refine awp_exit ?_ | refine awp_label ?_ | refine u_dT ?_ | refine u_d ?_ | refine u_l ?_ | refine u_o ?_ | refine u_q ?_ | refine u_lr ?_ | refine u_qr ?_ | refine u_ls ?_ | refine u_qs ?_ | refine u_t ?_ | refine u_f ?_ | refine v_s ?_ | refine v_o ?_ | refine v_on ?_ | refine v_og ?_ | refine v_q ?_ | refine v_sr ?_ | refine v_k ?_ | refine m_nil ?_)
    have hlm : 1 ≤ 1 + pickV code 3 A.2.2 ∧ 1 + pickV code 3 A.2.2 ≤ 3 := by omega
    generalize 1 + pickV code 3 A.2.2 = lm at *
    generalize pickS code 3 A.2.2 = s3 at *
    refine awp_sub (s' := [(0, .ref 10000 0), (2, .ref 2 0), (3, .ref 3 0), (4, .d (.int .i64 lm))]) (by ((repeat (first | exact trivial | (refine ⟨?_, ?_⟩; (focus (first | rfl | (simp [lk, argsS, args0]; done) | (simp [lk, argsS, args0]; omega)))))))) ?_
    refine awp_nilCell 3 2 201 2 1 (by exact rfl) (by exact rfl) rfl rfl rfl ?_
    refine awp_permTo [(2, .box [.d (.int .i64 0), .d .nils, .d .nils]), (3, .box [.d (.int .i64 A.1), .d (rows A.2.1), .own 201]), (201, .arr 2 1 []), (10000, .box [.d (u8s code), .d (.int .i64 s3.pos), .d (.int .u64 s3.sd)])] rfl ?_
    repeat (first | refine awp_seq ?_ | refine then_n ?_ | refine then_r ?_ | refine then_x ?_ | refine block_n ?_ | refine block_r ?_ | refine block_x ?_ | refine u_y ?_ | refine loop_r ?_ | refine loop_x ?_ | refine awp_region ?_ | refine awpL_nil ?_ | refine awpQL_nil ?_ | refine awp_block ?_ | refine awp_skip ?_ | refine awp_exit ?_ | refine awp_label ?_ | refine u_dT ?_ | refine u_d ?_ | refine u_l ?_ | refine u_o ?_ | refine u_q ?_ | refine u_lr ?_ | refine u_qr ?_ | refine u_ls ?_ | refine u_qs ?_ | refine u_t ?_ | refine u_f ?_ | refine v_s ?_ | refine v_o ?_ | refine v_on ?_ | refine v_og ?_ | refine v_q ?_ | refine v_sr ?_ | refine v_k ?_ | refine m_nil ?_)
    refine awp_loop (fun i : Nat => (i : Int) ≤ A.1) (fun i => [(0, .ref 10000 0), (2, .ref 2 0), (3, .ref 3 0), (4, .d (.int .i64 lm)), (5, .d (.int .i64 i))])
      (fun i => [(2, .box [.d (.int .i64 0), .d .nils, .d .nils]), (3, .box [.d (.int .i64 A.1), .d (rows A.2.1), .own 201]), (201, .arr 2 1 ((lpK code lm s3 i).1.map (.int .i64))), (10000, .box [.d (u8s code), .d (.int .i64 (lpK code lm s3 i).2.pos), .d (.int .u64 (lpK code lm s3 i).2.sd)])]) (fun i => A.1.toNat - i) 0 (by omega) ?_ rfl ?_
    · ((repeat (first | exact trivial | (refine ⟨?_, ?_⟩; (focus (first | rfl | (simp [lk, argsS, args0]; done) | (simp [lk, argsS, args0]; omega)))))))
    · intro i hi
      have hoi := hok i
      have hli := hlen i
      have hm1 : ((lpK code lm s3 i).1.map (D.int .i64)).length = i := by simp [hli]
      by_cases hlt : (i : Int) < A.1
      · have hst : lpK code lm s3 (i + 1) = ((lpK code lm s3 i).1 ++ [pickV code lm (lpK code lm s3 i).2], pickS code lm (lpK code lm s3 i).2) := rfl
        have q1 := hP _ _ lm hoi (by omega) (by omega)
        generalize lpK code lm s3 i = r at *
        repeat (first | refine awp_seq ?_ | refine then_n ?_ | refine then_r ?_ | refine then_x ?_ | refine block_n ?_ | refine block_r ?_ | refine block_x ?_ | refine u_y ?_ | refine loop_r ?_ | refine loop_x ?_ | refine awp_region ?_ | refine awpL_nil ?_ | refine awpQL_nil ?_ | refine awp_block ?_ | refine awp_skip ?_ | refine awp_exit ?_ | refine awp_label ?_ | refine u_l ?_ | refine u_o ?_ | refine u_q ?_ | refine u_lr ?_ | refine u_qr ?_ | refine u_ls ?_ | refine u_qs ?_ | refine u_t ?_ | refine u_f ?_ | refine v_s ?_ | refine v_o ?_ | refine v_on ?_ | refine v_og ?_ | refine v_q ?_ | refine v_sr ?_ | refine v_k ?_ | refine m_nil ?_)
        refine u_mJ [(4, [10000]), (6, [201]), (8, [3])] (.tk [10000] [0, 1] (.tk [] [2, 3, 4, 5, 6] (.tk [10000, 201] [7] (.tk [] [8] .done))))
          [(0, .ref 10000 0), (2, .ref 2 0), (3, .ref 3 0), (4, .d (.int .i64 lm)), (5, .d (.int .i64 i))]
          [(2, .box [.d (.int .i64 0), .d .nils, .d .nils]), (3, .box [.d (.int .i64 A.1), .d (rows A.2.1), .own 201]), (201, .arr 2 1 (r.1.map (.int .i64) ++ [.int .i64 (pickV code lm r.2)])), (10000, .box [.d (u8s code), .d (.int .i64 (pickS code lm r.2).pos), .d (.int .u64 (pickS code lm r.2).sd)])] ?_ ?_
        · repeat (first | refine awp_seq ?_ | refine then_n ?_ | refine then_r ?_ | refine then_x ?_ | refine block_n ?_ | refine block_r ?_ | refine block_x ?_ | refine u_y ?_ | refine loop_r ?_ | refine loop_x ?_ | refine awp_region ?_ | refine awpL_nil ?_ | refine awpQL_nil ?_ | refine awp_block ?_ | refine awp_skip ?_ | refine awp_exit ?_ | refine awp_label ?_ | refine u_dT ?_ | refine u_d ?_ | refine u_l ?_ | refine u_o ?_ | refine u_q ?_ | refine u_lr ?_ | refine u_qr ?_ | refine u_ls ?_ | refine u_qs ?_ | refine u_t ?_ | refine u_f ?_ | refine v_s ?_ | refine v_o ?_ | refine v_on ?_ | refine v_og ?_ | refine v_q ?_ | refine v_sr ?_ | refine v_k ?_ | refine m_nil ?_)
          refine hclM [(10000, 10000)] [(10000, 10000)] q1 ?_
          repeat (first | refine awp_seq ?_ | refine then_n ?_ | refine then_r ?_ | refine then_x ?_ | refine block_n ?_ | refine block_r ?_ | refine block_x ?_ | refine u_y ?_ | refine loop_r ?_ | refine loop_x ?_ | refine awp_region ?_ | refine awpL_nil ?_ | refine awpQL_nil ?_ | refine awp_block ?_ | refine awp_skip ?_ | refine awp_exit ?_ | refine awp_label ?_ | refine u_dT ?_ | refine u_d ?_ | refine u_l ?_ | refine u_o ?_ | refine u_q ?_ | refine u_lr ?_ | refine u_qr ?_ | refine u_ls ?_ | refine u_qs ?_ | refine u_t ?_ | refine u_f ?_ | refine v_s ?_ | refine v_o ?_ | refine v_on ?_ | refine v_og ?_ | refine v_q ?_ | refine v_sr ?_ | refine v_k ?_ | refine m_nil ?_)
          exact ⟨by ((repeat (first | exact trivial | (refine ⟨?_, ?_⟩; (focus (first | rfl | (simp [lk, argsS, args0]; done) | (simp [lk, argsS, args0]; omega))))))), perm_of_sort rfl⟩
        · repeat (first | refine awp_seq ?_ | refine then_n ?_ | refine then_r ?_ | refine then_x ?_ | refine block_n ?_ | refine block_r ?_ | refine block_x ?_ | refine u_y ?_ | refine loop_r ?_ | refine loop_x ?_ | refine awp_region ?_ | refine awpL_nil ?_ | refine awpQL_nil ?_ | refine awp_block ?_ | refine awp_skip ?_ | refine awp_exit ?_ | refine awp_label ?_ | refine u_dT ?_ | refine u_d ?_ | refine u_l ?_ | refine u_o ?_ | refine u_q ?_ | refine u_lr ?_ | refine u_qr ?_ | refine u_ls ?_ | refine u_qs ?_ | refine u_t ?_ | refine u_f ?_ | refine v_s ?_ | refine v_o ?_ | refine v_on ?_ | refine v_og ?_ | refine v_q ?_ | refine v_sr ?_ | refine v_k ?_ | refine m_nil ?_)
          refine loop_n (i + 1) (by omega) ?_ ?_ (by omega)
          · ((repeat (first | exact trivial | (refine ⟨?_, ?_⟩; (focus (first | rfl | (simp [lk, argsS, args0]; done) | (simp [lk, argsS, args0]; omega)))))))
          · rw [hst]; simp only [List.map_append]; (as_aux_lemma => kernel_rfl)
      · have hiA : i = A.1.toNat := by omega
        subst hiA
        repeat (first | refine awp_seq ?_ | refine then_n ?_ | refine then_r ?_ | refine then_x ?_ | refine block_n ?_ | refine block_r ?_ | refine block_x ?_ | refine u_y ?_ | refine loop_r ?_ | refine loop_x ?_ | refine awp_region ?_ | refine awpL_nil ?_ | refine awpQL_nil ?_ | refine awp_block ?_ | refine awp_skip ?_ | refine awp_exit ?_ | refine awp_label ?_ | refine u_dT ?_ | refine u_d ?_ | refine u_l ?_ | refine u_o ?_ | refine u_q ?_ | refine u_lr ?_ | refine u_qr ?_ | refine u_ls ?_ | refine u_qs ?_ | refine u_t ?_ | refine u_f ?_ | refine v_s ?_ | refine v_o ?_ | refine v_on ?_ | refine v_og ?_ | refine v_q ?_ | refine v_sr ?_ | refine v_k ?_ | refine m_nil ?_)
        (refine awp_ret ?_; (repeat (first | refine then_r ?_ | refine block_r ?_ | refine loop_r ?_)); refine u_rH [(10000, 10000), (201, 30000)] ?_ ?_)
        · rfl
        · rfl

theorem spec_A2Lit {code : List Int} (hb : BytesOk code) : AC Try.prog 7 [u8s code] (ltD (drA code ⟨0, 0⟩).1 (drA code ⟨0, 0⟩).2.1 (drP code ⟨0, 0⟩).1) := by
  have c0 := spec_From (code := code)
  have c1 := spec_l08Drawn (s := ⟨0, 0⟩) (k := 0) hb ⟨Nat.le_refl _, by simp⟩ (by omega)
  generalize drA code ⟨0, 0⟩ = A at *
  generalize drP code ⟨0, 0⟩ = P at *
  unfold ltD srcB at *
  refine ac_introC tabIs _ Try.func7 rfl rfl Try.ntmps7 rfl rfl fun w0 ok0 => ?_
  repeat (first | refine awp_seq ?_ | refine then_n ?_ | refine then_r ?_ | refine then_x ?_ | refine block_n ?_ | refine block_r ?_ | refine block_x ?_ | refine u_y ?_ | refine loop_r ?_ | refine loop_x ?_ | refine awp_region ?_ | refine awpL_nil ?_ | refine awpQL_nil ?_ | refine awp_block ?_ | refine awp_skip ?_ | refine awp_exit ?_ | refine awp_label ?_ | refine u_dT ?_ | refine u_d ?_ | refine u_l ?_ | refine u_o ?_ | refine u_q ?_ | refine u_lr ?_ | refine u_qr ?_ | refine u_ls ?_ | refine u_qs ?_ | refine u_t ?_ | refine u_f ?_ | refine v_s ?_ | refine v_o ?_ | refine v_on ?_ | refine v_og ?_ | refine v_q ?_ | refine v_sr ?_ | refine v_k ?_ | refine m_nil ?_)
  refine hcl [] [(30000, 100)] c0 ?_
  repeat (first | refine awp_seq ?_ | refine then_n ?_ | refine then_r ?_ | refine then_x ?_ | refine block_n ?_ | refine block_r ?_ | refine block_x ?_ | refine u_y ?_ | refine loop_r ?_ | refine loop_x ?_ | refine awp_region ?_ | refine awpL_nil ?_ | refine awpQL_nil ?_ | refine awp_block ?_ | refine awp_skip ?_ | refine awp_exit ?_ | refine awp_label ?_ | refine u_dT ?_ | refine u_d ?_ | refine u_l ?_ | refine u_o ?_ | refine u_q ?_ | refine u_lr ?_ | refine u_qr ?_ | refine u_ls ?_ | refine u_qs ?_ | refine u_t ?_ | refine u_f ?_ | refine v_s ?_ | refine v_o ?_ | refine v_on ?_ | refine v_og ?_ | refine v_q ?_ | refine v_sr ?_ | refine v_k ?_ | refine m_nil ?_)
  refine hcl [(100, 10000)] [(10000, 100), (30000, 201)] c1 ?_
  refine awpL_freeze 201 rfl rfl ?_
  repeat (first | refine awp_seq ?_ | refine then_n ?_ | refine then_r ?_ | refine then_x ?_ | refine block_n ?_ | refine block_r ?_ | refine block_x ?_ | refine u_y ?_ | refine loop_r ?_ | refine loop_x ?_ | refine awp_region ?_ | refine awpL_nil ?_ | refine awpQL_nil ?_ | refine awp_block ?_ | refine awp_skip ?_ | refine awp_exit ?_ | refine awp_label ?_ | refine u_dT ?_ | refine u_d ?_ | refine u_l ?_ | refine u_o ?_ | refine u_q ?_ | refine u_lr ?_ | refine u_qr ?_ | refine u_ls ?_ | refine u_qs ?_ | refine u_t ?_ | refine u_f ?_ | refine v_s ?_ | refine v_o ?_ | refine v_on ?_ | refine v_og ?_ | refine v_q ?_ | refine v_sr ?_ | refine v_k ?_ | refine m_nil ?_)
  (refine awp_ret ?_; (repeat (first | refine then_r ?_ | refine block_r ?_ | refine loop_r ?_)); apply ret_okC (.inr rfl); (focus exact rfl))
  rfl
theorem drawn_ok {code : List Int} (hb : BytesOk code) : litOk (drA code ⟨0, 0⟩).1 (drA code ⟨0, 0⟩).2.1 (drP code ⟨0, 0⟩).1 = true := by
  obtain ⟨h1, h2, h3⟩ := drA_ok (s := ⟨0, 0⟩) hb
  have hr := pick_range (s := (drA code ⟨0, 0⟩).2.2) (n := 3) hb (by omega)
  have hl := lpK_len (code := code) (lm := drLm code ⟨0, 0⟩) (s := pickS code 3 (drA code ⟨0, 0⟩).2.2) (drA code ⟨0, 0⟩).1.toNat
  have he := lpK_el (code := code) (lm := drLm code ⟨0, 0⟩) (s := pickS code 3 (drA code ⟨0, 0⟩).2.2) hb (by unfold drLm; omega) (drA code ⟨0, 0⟩).1.toNat
  have hlm : drLm code ⟨0, 0⟩ ≤ 3 := by unfold drLm; omega
  unfold drP
  generalize drA code ⟨0, 0⟩ = A at *
  generalize lpK code (drLm code ⟨0, 0⟩) (pickS code 3 A.2.2) A.1.toNat = P at *
  simp only [litOk, autoOk, allIn, inB, rowOk, Bool.and_eq_true, List.all_eq_true, decide_eq_true_eq]
  refine ⟨⟨⟨by omega, by omega⟩, fun ns hn => ⟨(h3 ns hn).1, fun v hv => ?_⟩⟩, by omega, fun v hv => ?_⟩
  · have := (h3 ns hn).2 v hv; omega
  · have := he v hv; omega

theorem laws_a2Long {a b : List Int} : AC Try.prog 6 [u8s a, u8s b] (.bool (decide (3000 < a.length) || decide (3000 < b.length))) := by
  have h1 : (a.map (D.int .u8)).length = a.length := by simp
  have h2 : (b.map (D.int .u8)).length = b.length := by simp
  unfold u8s
  by_cases c : (3000 : Int) < a.length
  · refine ac_intro tabIs _ Try.func6 rfl rfl Try.ntmps6 rfl rfl fun w0 ok0 => ?_
    repeat (first | refine awp_seq ?_ | refine then_n ?_ | refine then_r ?_ | refine then_x ?_ | refine block_n ?_ | refine block_r ?_ | refine block_x ?_ | refine u_y ?_ | refine loop_r ?_ | refine loop_x ?_ | refine awp_region ?_ | refine awpL_nil ?_ | refine awpQL_nil ?_ | refine awp_block ?_ | refine awp_skip ?_ | refine awp_exit ?_ | refine awp_label ?_ | refine u_dT ?_ | refine u_d ?_ | refine u_l ?_ | refine u_o ?_ | refine u_q ?_ | refine u_lr ?_ | refine u_qr ?_ | refine u_ls ?_ | refine u_qs ?_ | refine u_t ?_ | refine u_f ?_ | refine v_s ?_ | refine v_o ?_ | refine v_on ?_ | refine v_og ?_ | refine v_q ?_ | refine v_sr ?_ | refine v_k ?_ | refine m_nil ?_ | refine u_glt ?_ | refine u_glf ?_ | refine u_gqt ?_ | refine u_gqf ?_)
    (refine awp_ret ?_; (repeat (first | refine then_r ?_ | refine block_r ?_ | refine loop_r ?_)); apply ret_ok (.inr rfl); (focus exact rfl))
    have c' : 3000 < a.length := by omega
    simp [c']
  · refine ac_intro tabIs _ Try.func6 rfl rfl Try.ntmps6 rfl rfl fun w0 ok0 => ?_
    repeat (first | refine awp_seq ?_ | refine then_n ?_ | refine then_r ?_ | refine then_x ?_ | refine block_n ?_ | refine block_r ?_ | refine block_x ?_ | refine u_y ?_ | refine loop_r ?_ | refine loop_x ?_ | refine awp_region ?_ | refine awpL_nil ?_ | refine awpQL_nil ?_ | refine awp_block ?_ | refine awp_skip ?_ | refine awp_exit ?_ | refine awp_label ?_ | refine u_dT ?_ | refine u_d ?_ | refine u_l ?_ | refine u_o ?_ | refine u_q ?_ | refine u_lr ?_ | refine u_qr ?_ | refine u_ls ?_ | refine u_qs ?_ | refine u_t ?_ | refine u_f ?_ | refine v_s ?_ | refine v_o ?_ | refine v_on ?_ | refine v_og ?_ | refine v_q ?_ | refine v_sr ?_ | refine v_k ?_ | refine m_nil ?_ | refine u_glt ?_ | refine u_glf ?_ | refine u_gqt ?_ | refine u_gqf ?_)
    (refine awp_ret ?_; (repeat (first | refine then_r ?_ | refine block_r ?_ | refine loop_r ?_)); apply ret_ok (.inr rfl); (focus exact rfl))
    have c' : ¬ 3000 < a.length := by omega
    simp [c']; omega

def atV (b : List Int) (n : Int) : Int := if b.length = 0 then 0 else b.getD 0 0 % n
theorem atV_range {b : List Int} {n : Int} (hn : 1 ≤ n) : 0 ≤ atV b n ∧ atV b n < n := by
  unfold atV
  split
  · omega
  · exact ⟨Int.emod_nonneg _ (by omega), Int.emod_lt_of_pos _ (by omega)⟩
theorem laws_a2At {b : List Int} {n : Int} (hb : BytesOk b) (hn : 1 ≤ n ∧ n ≤ 1000) : AC Try.prog 8 [u8s b, .int .i64 0, .int .i64 n] (.int .i64 (atV b n)) := by
  have h1 : (b.map (D.int .u8)).length = b.length := by simp
  have hr := byte_range (s := ⟨0, 0⟩) hb
  unfold atV
  by_cases c : b.length = 0
  · rw [if_pos c]
    have : b = [] := List.length_eq_zero_iff.1 c
    subst this
    unfold u8s
    refine ac_intro tabIs _ Try.func8 rfl rfl Try.ntmps8 rfl rfl fun w0 ok0 => ?_
    repeat (first | refine awp_seq ?_ | refine then_n ?_ | refine then_r ?_ | refine then_x ?_ | refine block_n ?_ | refine block_r ?_ | refine block_x ?_ | refine u_y ?_ | refine loop_r ?_ | refine loop_x ?_ | refine awp_region ?_ | refine awpL_nil ?_ | refine awpQL_nil ?_ | refine awp_block ?_ | refine awp_skip ?_ | refine awp_exit ?_ | refine awp_label ?_ | refine u_dT ?_ | refine u_d ?_ | refine u_l ?_ | refine u_o ?_ | refine u_q ?_ | refine u_lr ?_ | refine u_qr ?_ | refine u_ls ?_ | refine u_qs ?_ | refine u_t ?_ | refine u_f ?_ | refine v_s ?_ | refine v_o ?_ | refine v_on ?_ | refine v_og ?_ | refine v_q ?_ | refine v_sr ?_ | refine v_k ?_ | refine m_nil ?_ | refine u_glt ?_ | refine u_glf ?_ | refine u_gqt ?_ | refine u_gqf ?_)
    (refine awp_ret ?_; (repeat (first | refine then_r ?_ | refine block_r ?_ | refine loop_r ?_)); apply ret_ok (.inr rfl); (focus exact rfl))
    rfl
  · rw [if_neg c]
    have hp : 0 < b.length := by omega
    have hp2 : ¬ (0 : Int) ≥ ((b.map (D.int .u8)).length : Nat) := by omega
    have hp3 : ¬ b = [] := fun e => by subst e; simp at hp
    have hx : (b.map (D.int .u8))[(0 : Int).toNat]? = some (.int .u8 (b.getD 0 0)) := by
      cases b with
      | nil => simp at c
      | cons x b => rfl
    unfold byteAt at hr
    change 0 ≤ b.getD 0 0 ∧ b.getD 0 0 ≤ 255 at hr
    generalize b.getD 0 0 = x at *
    unfold u8s
    refine ac_intro tabIs _ Try.func8 rfl rfl Try.ntmps8 rfl rfl fun w0 ok0 => ?_
    repeat (first | refine awp_seq ?_ | refine then_n ?_ | refine then_r ?_ | refine then_x ?_ | refine block_n ?_ | refine block_r ?_ | refine block_x ?_ | refine u_y ?_ | refine loop_r ?_ | refine loop_x ?_ | refine awp_region ?_ | refine awpL_nil ?_ | refine awpQL_nil ?_ | refine awp_block ?_ | refine awp_skip ?_ | refine awp_exit ?_ | refine awp_label ?_ | refine u_dT ?_ | refine u_d ?_ | ((first | apply x_l | apply x_q | apply x_lr | apply x_qr); (focus (first | (apply qk_conv; (iterate 6 (focus (first | exact rfl | (first | assumption | omega | (simp; omega) | (simp; done) | rfl))))))); exact rfl) | (apply v_x; (iterate 2 exact rfl); (focus (intro ok0 nw hle; (first | (apply qk_conv; (iterate 6 (focus (first | exact rfl | (first | assumption | omega | (simp; omega) | (simp; done) | rfl)))))))); (iterate 2 exact rfl)) | refine u_l ?_ | refine u_o ?_ | refine u_q ?_ | refine u_lr ?_ | refine u_qr ?_ | refine u_ls ?_ | refine u_qs ?_ | refine u_t ?_ | refine u_f ?_ | refine v_s ?_ | refine v_o ?_ | refine v_on ?_ | refine v_og ?_ | refine v_q ?_ | refine v_sr ?_ | refine v_k ?_ | refine m_nil ?_ | refine u_glt ?_ | refine u_glf ?_ | refine u_gqt ?_ | refine u_gqf ?_)
    (refine awp_ret ?_; (repeat (first | refine then_r ?_ | refine block_r ?_ | refine loop_r ?_)); apply ret_ok (.inr rfl); (focus exact rfl))
    rfl
end Go.Proofs.Ytampglcgipefnaa
