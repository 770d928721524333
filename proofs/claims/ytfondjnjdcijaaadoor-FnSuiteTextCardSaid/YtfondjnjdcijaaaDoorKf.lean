/- What the laws' package asks of numbers and machines, suites that are drawn, outputs for words. No condition. -/
import Derived.Test.YtfondjnjdcijaaaDoorKe
import Derived.Test.YtfondjnjdcijaaaDoorNh
namespace Go.Proofs.YtfondjnjdcijaaaDoor
open Go
attribute [local irreducible] awp awpL awpQL awpQ awpM pWalk Qt AC thenQ blockQ loopQ OpTo
set_option linter.unusedVariables false
set_option linter.unusedSimpArgs false
set_option maxHeartbeats 2000000
attribute [local irreducible] HC

theorem laws_f6big {code : List Int} : AC Tryd.prog 11 [u8s code] (.bool (decide ((4096 : Int) < code.length))) := by
  have hle : (List.map (D.int .u8) code).length = code.length := by simp
  unfold u8s
  rw [← hle]
  refine ac_intro tabIs _ Tryd.func11 rfl rfl Tryd.ntmps11 rfl rfl fun w0 ok0 => ?_
  repeat (first | refine awp_seq ?_ | refine then_n ?_ | refine then_r ?_ | refine then_x ?_ | refine block_n ?_ | refine block_r ?_ | refine block_x ?_ | refine u_y ?_ | refine loop_r ?_ | refine loop_x ?_ | refine awp_region ?_ | refine awpL_nil ?_ | refine awpQL_nil ?_ | refine awp_block ?_ | refine awp_skip ?_ | refine awp_exit ?_ | refine awp_label ?_ | refine u_dT ?_ | refine u_d ?_ | refine u_l ?_ | refine u_o ?_ | refine u_q ?_ | refine u_lr ?_ | refine u_qr ?_ | refine u_ls ?_ | refine u_qs ?_ | refine u_t ?_ | refine u_f ?_ | refine v_s ?_ | refine v_o ?_ | refine v_on ?_ | refine v_og ?_ | refine v_q ?_ | refine v_sr ?_ | refine v_k ?_ | refine m_nil ?_)
  (refine awp_ret ?_; (repeat (first | refine then_r ?_ | refine block_r ?_ | refine loop_r ?_)); apply ret_ok (.inr rfl); (focus exact rfl))
  rfl

theorem laws_f6ints {a b : List Int} (h1 : a.length ≤ 9223372036854775807) (h2 : b.length ≤ 9223372036854775807) : AC Tryd.prog 40 [ints a, ints b] (.bool (decide (a = b))) := by
  have hla : (List.map (D.int IntKind.i64) a).length = a.length := by simp
  have hlb : (List.map (D.int IntKind.i64) b).length = b.length := by simp
  by_cases hl : a.length = b.length
  · refine ac_intro tabIs _ Tryd.func40 rfl rfl Tryd.ntmps40 rfl rfl fun w0 ok0 => ?_
    repeat (first | refine awp_seq ?_ | refine then_n ?_ | refine then_r ?_ | refine then_x ?_ | refine block_n ?_ | refine block_r ?_ | refine block_x ?_ | refine u_y ?_ | refine loop_r ?_ | refine loop_x ?_ | refine awp_region ?_ | refine awpL_nil ?_ | refine awpQL_nil ?_ | refine awp_block ?_ | refine awp_skip ?_ | refine awp_exit ?_ | refine awp_label ?_ | refine u_dT ?_ | refine u_d ?_ | refine u_l ?_ | refine u_o ?_ | refine u_q ?_ | refine u_lr ?_ | refine u_qr ?_ | refine u_ls ?_ | refine u_qs ?_ | refine u_t ?_ | refine u_f ?_ | refine v_s ?_ | refine v_o ?_ | refine v_on ?_ | refine v_og ?_ | refine v_q ?_ | refine v_sr ?_ | refine v_k ?_ | refine m_nil ?_)
    refine awp_loop (fun k : Nat => k ≤ a.length ∧ a.take k = b.take k) (fun k => [(0, .d (ints a)), (1, .d (ints b)), (5, .d (.int .i64 k))]) (fun _ => []) (fun k => a.length - k) 0 ⟨by omega, rfl⟩ ?_ rfl ?_
    · ((repeat (first | exact trivial | (refine ⟨?_, ?_⟩; (focus (first | rfl | (simp [lk, argsS, args0]; done) | (simp [lk, argsS, args0]; omega)))))))
    · rintro k ⟨hk, ht⟩
      by_cases hlt : k < a.length
      · have hlt2 : k < b.length := by omega
        have ea := el_int hlt
        have eb := el_int hlt2
        by_cases hc : a[k] = b[k]
        · have hs := eq_step hlt hlt2 ht hc
          repeat (first | refine awp_seq ?_ | refine then_n ?_ | refine then_r ?_ | refine then_x ?_ | refine block_n ?_ | refine block_r ?_ | refine block_x ?_ | refine u_y ?_ | refine loop_r ?_ | refine loop_x ?_ | refine awp_region ?_ | refine awpL_nil ?_ | refine awpQL_nil ?_ | refine awp_block ?_ | refine awp_skip ?_ | refine awp_exit ?_ | refine awp_label ?_ | refine u_dT ?_ | refine u_d ?_ | refine u_l ?_ | refine u_o ?_ | refine u_q ?_ | refine u_lr ?_ | refine u_qr ?_ | refine u_ls ?_ | refine u_qs ?_ | refine u_t ?_ | refine u_f ?_ | refine v_s ?_ | refine v_o ?_ | refine v_on ?_ | refine v_og ?_ | refine v_q ?_ | refine v_sr ?_ | refine v_k ?_ | refine m_nil ?_)
          refine loop_n (k + 1) ⟨by omega, hs⟩ ?_ rfl (by omega)
          ((repeat (first | exact trivial | (refine ⟨?_, ?_⟩; (focus (first | rfl | (simp [lk, argsS, args0]; done) | (simp [lk, argsS, args0]; omega)))))))
        · repeat (first | refine awp_seq ?_ | refine then_n ?_ | refine then_r ?_ | refine then_x ?_ | refine block_n ?_ | refine block_r ?_ | refine block_x ?_ | refine u_y ?_ | refine loop_r ?_ | refine loop_x ?_ | refine awp_region ?_ | refine awpL_nil ?_ | refine awpQL_nil ?_ | refine awp_block ?_ | refine awp_skip ?_ | refine awp_exit ?_ | refine awp_label ?_ | refine u_dT ?_ | refine u_d ?_ | refine u_l ?_ | refine u_o ?_ | refine u_q ?_ | refine u_lr ?_ | refine u_qr ?_ | refine u_ls ?_ | refine u_qs ?_ | refine u_t ?_ | refine u_f ?_ | refine v_s ?_ | refine v_o ?_ | refine v_on ?_ | refine v_og ?_ | refine v_q ?_ | refine v_sr ?_ | refine v_k ?_ | refine m_nil ?_)
          (refine awp_ret ?_; (repeat (first | refine then_r ?_ | refine block_r ?_ | refine loop_r ?_)); apply ret_ok (.inr rfl); (focus exact rfl))
          have : ¬ a = b := fun e => hc (by subst e; rfl)
          simp [this]
      · have hk' : k = a.length := by omega
        subst hk'
        rw [List.take_length, hl, List.take_length] at ht
        repeat (first | refine awp_seq ?_ | refine then_n ?_ | refine then_r ?_ | refine then_x ?_ | refine block_n ?_ | refine block_r ?_ | refine block_x ?_ | refine u_y ?_ | refine loop_r ?_ | refine loop_x ?_ | refine awp_region ?_ | refine awpL_nil ?_ | refine awpQL_nil ?_ | refine awp_block ?_ | refine awp_skip ?_ | refine awp_exit ?_ | refine awp_label ?_ | refine u_dT ?_ | refine u_d ?_ | refine u_l ?_ | refine u_o ?_ | refine u_q ?_ | refine u_lr ?_ | refine u_qr ?_ | refine u_ls ?_ | refine u_qs ?_ | refine u_t ?_ | refine u_f ?_ | refine v_s ?_ | refine v_o ?_ | refine v_on ?_ | refine v_og ?_ | refine v_q ?_ | refine v_sr ?_ | refine v_k ?_ | refine m_nil ?_)
        (refine awp_ret ?_; (repeat (first | refine then_r ?_ | refine block_r ?_ | refine loop_r ?_)); apply ret_ok (.inr rfl); (focus exact rfl))
        simp [ht]
  · refine ac_intro tabIs _ Tryd.func40 rfl rfl Tryd.ntmps40 rfl rfl fun w0 ok0 => ?_
    repeat (first | refine awp_seq ?_ | refine then_n ?_ | refine then_r ?_ | refine then_x ?_ | refine block_n ?_ | refine block_r ?_ | refine block_x ?_ | refine u_y ?_ | refine loop_r ?_ | refine loop_x ?_ | refine awp_region ?_ | refine awpL_nil ?_ | refine awpQL_nil ?_ | refine awp_block ?_ | refine awp_skip ?_ | refine awp_exit ?_ | refine awp_label ?_ | refine u_dT ?_ | refine u_d ?_ | refine u_l ?_ | refine u_o ?_ | refine u_q ?_ | refine u_lr ?_ | refine u_qr ?_ | refine u_ls ?_ | refine u_qs ?_ | refine u_t ?_ | refine u_f ?_ | refine v_s ?_ | refine v_o ?_ | refine v_on ?_ | refine v_og ?_ | refine v_q ?_ | refine v_sr ?_ | refine v_k ?_ | refine m_nil ?_)
    (refine awp_ret ?_; (repeat (first | refine then_r ?_ | refine block_r ?_ | refine loop_r ?_)); apply ret_ok (.inr rfl); (focus exact rfl))
    have : ¬ a = b := fun e => hl (by rw [e])
    simp [this]


theorem laws_f6rows {a b : List (List Int)} (h1 : RowsOk a) (h2 : RowsOk b) : AC Tryd.prog 17 [rows a, rows b] (.bool (decide (a = b))) := by
  have hla : (List.map ints a).length = a.length := by simp
  have hlb : (List.map ints b).length = b.length := by simp
  have h1' := h1.2
  have h2' := h2.2
  by_cases hl : a.length = b.length
  · refine ac_intro tabIs _ Tryd.func17 rfl rfl Tryd.ntmps17 rfl rfl fun w0 ok0 => ?_
    repeat (first | refine awp_seq ?_ | refine then_n ?_ | refine then_r ?_ | refine then_x ?_ | refine block_n ?_ | refine block_r ?_ | refine block_x ?_ | refine u_y ?_ | refine loop_r ?_ | refine loop_x ?_ | refine awp_region ?_ | refine awpL_nil ?_ | refine awpQL_nil ?_ | refine awp_block ?_ | refine awp_skip ?_ | refine awp_exit ?_ | refine awp_label ?_ | refine u_dT ?_ | refine u_d ?_ | refine u_l ?_ | refine u_o ?_ | refine u_q ?_ | refine u_lr ?_ | refine u_qr ?_ | refine u_ls ?_ | refine u_qs ?_ | refine u_t ?_ | refine u_f ?_ | refine v_s ?_ | refine v_o ?_ | refine v_on ?_ | refine v_og ?_ | refine v_q ?_ | refine v_sr ?_ | refine v_k ?_ | refine m_nil ?_)
    refine awp_loop (fun k : Nat => k ≤ a.length ∧ a.take k = b.take k) (fun k => [(0, .d (rows a)), (1, .d (rows b)), (5, .d (.int .i64 k))]) (fun _ => []) (fun k => a.length - k) 0 ⟨by omega, rfl⟩ ?_ rfl ?_
    · ((repeat (first | exact trivial | (refine ⟨?_, ?_⟩; (focus (first | rfl | (simp [lk, argsS, args0]; done) | (simp [lk, argsS, args0]; omega)))))))
    · rintro k ⟨hk, ht⟩
      by_cases hlt : k < a.length
      · have hlt2 : k < b.length := by omega
        have ea := el_row hlt
        have eb := el_row hlt2
        have ba := (h1.1 _ (List.getElem_mem hlt)).2
        have bb := (h2.1 _ (List.getElem_mem hlt2)).2
        by_cases hc : a[k] = b[k]
        · have hs := eq_step hlt hlt2 ht hc
          repeat (first | refine awp_seq ?_ | refine then_n ?_ | refine then_r ?_ | refine then_x ?_ | refine block_n ?_ | refine block_r ?_ | refine block_x ?_ | refine u_y ?_ | refine loop_r ?_ | refine loop_x ?_ | refine awp_region ?_ | refine awpL_nil ?_ | refine awpQL_nil ?_ | refine awp_block ?_ | refine awp_skip ?_ | refine awp_exit ?_ | refine awp_label ?_ | refine u_dT ?_ | refine u_d ?_ | ((first | apply c_l | apply c_q | apply c_lr | apply c_qr); (iterate 2 exact rfl); (focus (first | (apply laws_f6ints; (iterate 2 (focus (first | assumption | omega | (simp; omega) | (simp; done) | rfl)))))); (iterate 2 exact rfl)) | (apply v_c; (iterate 4 exact rfl); (focus (first | (apply laws_f6ints; (iterate 2 (focus (first | assumption | omega | (simp; omega) | (simp; done) | rfl)))))); (iterate 2 exact rfl)) | refine u_l ?_ | refine u_o ?_ | refine u_q ?_ | refine u_lr ?_ | refine u_qr ?_ | refine u_ls ?_ | refine u_qs ?_ | refine u_t ?_ | refine u_f ?_ | refine v_s ?_ | refine v_o ?_ | refine v_on ?_ | refine v_og ?_ | refine v_q ?_ | refine v_sr ?_ | refine v_k ?_ | refine m_nil ?_)
          refine loop_n (k + 1) ⟨by omega, hs⟩ ?_ rfl (by omega)
          ((repeat (first | exact trivial | (refine ⟨?_, ?_⟩; (focus (first | rfl | (simp [lk, argsS, args0]; done) | (simp [lk, argsS, args0]; omega)))))))
        · repeat (first | refine awp_seq ?_ | refine then_n ?_ | refine then_r ?_ | refine then_x ?_ | refine block_n ?_ | refine block_r ?_ | refine block_x ?_ | refine u_y ?_ | refine loop_r ?_ | refine loop_x ?_ | refine awp_region ?_ | refine awpL_nil ?_ | refine awpQL_nil ?_ | refine awp_block ?_ | refine awp_skip ?_ | refine awp_exit ?_ | refine awp_label ?_ | refine u_dT ?_ | refine u_d ?_ | ((first | apply c_l | apply c_q | apply c_lr | apply c_qr); (iterate 2 exact rfl); (focus (first | (apply laws_f6ints; (iterate 2 (focus (first | assumption | omega | (simp; omega) | (simp; done) | rfl)))))); (iterate 2 exact rfl)) | (apply v_c; (iterate 4 exact rfl); (focus (first | (apply laws_f6ints; (iterate 2 (focus (first | assumption | omega | (simp; omega) | (simp; done) | rfl)))))); (iterate 2 exact rfl)) | refine u_l ?_ | refine u_o ?_ | refine u_q ?_ | refine u_lr ?_ | refine u_qr ?_ | refine u_ls ?_ | refine u_qs ?_ | refine u_t ?_ | refine u_f ?_ | refine v_s ?_ | refine v_o ?_ | refine v_on ?_ | refine v_og ?_ | refine v_q ?_ | refine v_sr ?_ | refine v_k ?_ | refine m_nil ?_)
          (refine awp_ret ?_; (repeat (first | refine then_r ?_ | refine block_r ?_ | refine loop_r ?_)); apply ret_ok (.inr rfl); (focus exact rfl))
          have : ¬ a = b := fun e => hc (by subst e; rfl)
          simp [this]
      · have hk' : k = a.length := by omega
        subst hk'
        rw [List.take_length, hl, List.take_length] at ht
        repeat (first | refine awp_seq ?_ | refine then_n ?_ | refine then_r ?_ | refine then_x ?_ | refine block_n ?_ | refine block_r ?_ | refine block_x ?_ | refine u_y ?_ | refine loop_r ?_ | refine loop_x ?_ | refine awp_region ?_ | refine awpL_nil ?_ | refine awpQL_nil ?_ | refine awp_block ?_ | refine awp_skip ?_ | refine awp_exit ?_ | refine awp_label ?_ | refine u_dT ?_ | refine u_d ?_ | refine u_l ?_ | refine u_o ?_ | refine u_q ?_ | refine u_lr ?_ | refine u_qr ?_ | refine u_ls ?_ | refine u_qs ?_ | refine u_t ?_ | refine u_f ?_ | refine v_s ?_ | refine v_o ?_ | refine v_on ?_ | refine v_og ?_ | refine v_q ?_ | refine v_sr ?_ | refine v_k ?_ | refine m_nil ?_)
        (refine awp_ret ?_; (repeat (first | refine then_r ?_ | refine block_r ?_ | refine loop_r ?_)); apply ret_ok (.inr rfl); (focus exact rfl))
        simp [ht]
  · refine ac_intro tabIs _ Tryd.func17 rfl rfl Tryd.ntmps17 rfl rfl fun w0 ok0 => ?_
    repeat (first | refine awp_seq ?_ | refine then_n ?_ | refine then_r ?_ | refine then_x ?_ | refine block_n ?_ | refine block_r ?_ | refine block_x ?_ | refine u_y ?_ | refine loop_r ?_ | refine loop_x ?_ | refine awp_region ?_ | refine awpL_nil ?_ | refine awpQL_nil ?_ | refine awp_block ?_ | refine awp_skip ?_ | refine awp_exit ?_ | refine awp_label ?_ | refine u_dT ?_ | refine u_d ?_ | refine u_l ?_ | refine u_o ?_ | refine u_q ?_ | refine u_lr ?_ | refine u_qr ?_ | refine u_ls ?_ | refine u_qs ?_ | refine u_t ?_ | refine u_f ?_ | refine v_s ?_ | refine v_o ?_ | refine v_on ?_ | refine v_og ?_ | refine v_q ?_ | refine v_sr ?_ | refine v_k ?_ | refine m_nil ?_)
    (refine awp_ret ?_; (repeat (first | refine then_r ?_ | refine block_r ?_ | refine loop_r ?_)); apply ret_ok (.inr rfl); (focus exact rfl))
    have : ¬ a = b := fun e => hl (by rw [e])
    simp [this]


theorem machOk_mv {s o : Int} {nx ou : List (List Int)} (m : MV s o nx ou) : machOk s o nx ou = true := by
  have h1 := m.s1
  have h2 := m.o1
  have h3 := m.n1
  have h4 := m.eq
  simp only [machOk, autoOk, rowOk, allIn, inB, Bool.and_eq_true, decide_eq_true_eq, List.all_eq_true]
  exact ⟨⟨⟨h1, by omega, by omega⟩, fun ns hn => ⟨(m.nx ns hn).1, fun v hv => by have := (m.nx ns hn).2 v hv; omega⟩⟩, h2, by omega, fun ns hn => ⟨(m.ou ns hn).1, fun v hv => by have := (m.ou ns hn).2 v hv; omega⟩⟩
theorem wordOk_of {n : Nat} {w : List Int} (h1 : w.length ≤ 400) (h2 : ∀ l ∈ w, 0 ≤ l ∧ l < n) : wordOk n w = true := by
  simp only [wordOk, allIn, inB, Bool.and_eq_true, decide_eq_true_eq, List.all_eq_true]
  exact ⟨by omega, fun l hl => by have := h2 l hl; omega⟩
theorem suiteOk_su {n : Nat} {ws : List (List Int)} (h : SuOk n ws) : suiteOk n ws = true := by
  simp only [suiteOk, Bool.and_eq_true, decide_eq_true_eq, List.all_eq_true]
  exact ⟨by have := h.len; omega, fun w hw => wordOk_of (h.all w hw).1 (h.all w hw).2⟩

def psW (code : List Int) (L : Int) (s : Src) : Nat → List Int × Src
  | 0 => ([], s)
  | i + 1 => ((psW code L s i).1 ++ [pickV code L (psW code L s i).2], pickS code L (psW code L s i).2)
def psR (code : List Int) (L : Int) (s : Src) : Nat → List (List Int) × Src
  | 0 => ([], s)
  | k + 1 => ((psR code L s k).1 ++ [(psW code L (pickS code 6 (psR code L s k).2) (pickV code 6 (psR code L s k).2).toNat).1], (psW code L (pickS code 6 (psR code L s k).2) (pickV code 6 (psR code L s k).2).toNat).2)
def psM (code : List Int) (L : Int) : List (List Int) := (psR code L (pickS code 6 ⟨0, 0⟩) (pickV code 6 ⟨0, 0⟩).toNat).1

theorem psW_ok {code : List Int} {L : Int} {s : Src} {k : Nat} (h : SOk s k) : ∀ i, SOk (psW code L s i).2 (k + 2 * i)
  | 0 => h
  | i + 1 => by
    show SOk (pickS code L (psW code L s i).2) _
    exact (pick_ok (psW_ok h i)).mono (by omega)
theorem psW_len {code : List Int} {L : Int} {s : Src} : ∀ i, (psW code L s i).1.length = i
  | 0 => rfl
  | i + 1 => by simp [psW, psW_len i]
theorem psW_el {code : List Int} {L : Int} {s : Src} (hb : BytesOk code) (hL : 1 ≤ L) : ∀ i, ∀ l ∈ (psW code L s i).1, 0 ≤ l ∧ l < L
  | 0, _, h => by cases h
  | i + 1, l, h => by
    rcases List.mem_append.1 h with h | h
    · exact psW_el hb hL i l h
    · simp only [List.mem_singleton] at h; subst h; exact pick_range hb hL
theorem psR_ok {code : List Int} {L : Int} {s : Src} {k : Nat} (hb : BytesOk code) (h : SOk s k) : ∀ i, SOk (psR code L s i).2 (k + 12 * i)
  | 0 => h
  | i + 1 => by
    show SOk (psW code L (pickS code 6 (psR code L s i).2) (pickV code 6 (psR code L s i).2).toNat).2 _
    have hr := pick_range (s := (psR code L s i).2) (n := 6) hb (by omega)
    exact (psW_ok (pick_ok (psR_ok hb h i)) _).mono (by omega)
theorem psR_len {code : List Int} {L : Int} {s : Src} : ∀ i, (psR code L s i).1.length = i
  | 0 => rfl
  | i + 1 => by simp [psR, psR_len i]
theorem psR_el {code : List Int} {L : Int} {s : Src} (hb : BytesOk code) (hL : 1 ≤ L) : ∀ i, ∀ w ∈ (psR code L s i).1, w.length ≤ 5 ∧ ∀ l ∈ w, 0 ≤ l ∧ l < L
  | 0, _, h => by cases h
  | i + 1, w, h => by
    rcases List.mem_append.1 h with h | h
    · exact psR_el hb hL i w h
    · simp only [List.mem_singleton] at h
      subst h
      have hr := pick_range (s := (psR code L s i).2) (n := 6) hb (by omega)
      exact ⟨by rw [psW_len]; omega, psW_el hb hL _⟩
theorem psM_len {code : List Int} {L : Int} (hb : BytesOk code) : (psM code L).length ≤ 5 := by
  have hr := pick_range (s := ⟨0, 0⟩) (n := 6) hb (by omega)
  unfold psM
  rw [psR_len]
  omega
theorem su_psM {code : List Int} {n : Nat} (hb : BytesOk code) (hn : 1 ≤ n) : SuOk n (psM code n) := ⟨by have := psM_len (L := n) hb; omega, fun w hw => by
  have := psR_el hb (L := n) (by omega) _ w hw
  exact ⟨by omega, this.2⟩⟩

theorem spec_P6SuiteH {code : List Int} {s o : Int} {nx ou : List (List Int)} (hb : BytesOk code) (hL : 1 ≤ nx.length ∧ nx.length ≤ 100) :
    HC Tryd.prog 13 [.d (u8s code), .d (mach s o nx ou)] [] (.own 30000) [(30000, .rows 37 2 1 (rws (psM code nx.length)) none)] := by
  have hle : (List.map ints nx).length = nx.length := by simp
  have c0 := spec_From (code := code)
  have hP : ∀ (s : Src) (k : Nat) (n : Int), SOk s k → k ≤ 999999990 → n ≤ 1000 → HC Tryd.prog 33 [.ref 10000 0, .d (.int .i64 n)] [(10000, srcB code s)] (.d (.int .i64 (pickV code n s))) [(10000, srcB code (pickS code n s))] := fun s k n a b c => spec_pick hb a b (by omega)
  have k0 : SOk (⟨0, 0⟩ : Src) 0 := ⟨Nat.le_refl _, by simp⟩
  have c1 := hP _ _ 6 k0 (by omega) (by omega)
  have hr := pick_range (s := ⟨0, 0⟩) (n := 6) hb (by omega)
  have hR := fun j => psR_ok (L := (nx.length : Int)) hb (pick_ok (code := code) (n := 6) k0) j
  obtain ⟨L, hLe, hL'⟩ : ∃ L : Int, L = ((List.map ints nx).length : Int) ∧ (nx.length : Int) = L := ⟨_, rfl, by rw [hle]⟩
  rw [hL'] at hR
  rw [hL'] 
  unfold psM mach
  generalize pickV code 6 ⟨0, 0⟩ = K at *
  generalize pickS code 6 ⟨0, 0⟩ = s1 at *
  unfold srcB at c0 c1 hP
  unfold u8s at *
  refine hc_intro tabIs _ Tryd.func13 rfl rfl Tryd.ntmps13 rfl rfl rfl ?_ fun w0 ok0 XM XA anc => ?_
  · exact likeIn_nil
  repeat (first | refine awp_seq ?_ | refine then_n ?_ | refine then_r ?_ | refine then_x ?_ | refine block_n ?_ | refine block_r ?_ | refine block_x ?_ | refine u_y ?_ | refine loop_r ?_ | refine loop_x ?_ | refine awp_region ?_ | refine awpL_nil ?_ | refine awpQL_nil ?_ | refine awp_block ?_ | refine awp_skip ?_ | refine awp_exit ?_ | refine awp_label ?_ | refine u_dT ?_ | refine u_d ?_ | refine u_l ?_ | refine u_o ?_ | refine u_q ?_ | refine u_lr ?_ | refine u_qr ?_ | refine u_ls ?_ | refine u_qs ?_ | refine u_t ?_ | refine u_f ?_ | refine v_s ?_ | refine v_o ?_ | refine v_on ?_ | refine v_og ?_ | refine v_q ?_ | refine v_sr ?_ | refine v_k ?_ | refine m_nil ?_)
  refine hcl [] [(30000, 500)] c0 ?_
  repeat (first | refine v_w (t := 12) ?_ | refine awp_seq ?_ | refine then_n ?_ | refine then_r ?_ | refine then_x ?_ | refine block_n ?_ | refine block_r ?_ | refine block_x ?_ | refine u_y ?_ | refine loop_r ?_ | refine loop_x ?_ | refine awp_region ?_ | refine awpL_nil ?_ | refine awpQL_nil ?_ | refine awp_block ?_ | refine awp_skip ?_ | refine awp_exit ?_ | refine awp_label ?_ | refine u_dT ?_ | refine u_d ?_ | refine u_w (t := 12) ?_ | refine u_l ?_ | refine u_o ?_ | refine u_q ?_ | refine u_lr ?_ | refine u_qr ?_ | refine u_ls ?_ | refine u_qs ?_ | refine u_t ?_ | refine u_f ?_ | refine v_s ?_ | refine v_o ?_ | refine v_on ?_ | refine v_og ?_ | refine v_q ?_ | refine v_sr ?_ | refine v_k ?_ | refine m_nil ?_)
  refine hcl [(500, 10000)] [(10000, 500)] c1 ?_
  repeat (first | refine awp_seq ?_ | refine then_n ?_ | refine then_r ?_ | refine then_x ?_ | refine block_n ?_ | refine block_r ?_ | refine block_x ?_ | refine u_y ?_ | refine loop_r ?_ | refine loop_x ?_ | refine awp_region ?_ | refine awpL_nil ?_ | refine awpQL_nil ?_ | refine awp_block ?_ | refine awp_skip ?_ | refine awp_exit ?_ | refine awp_label ?_ | refine u_dT ?_ | refine u_d ?_ | refine u_l ?_ | refine u_o ?_ | refine u_q ?_ | refine u_lr ?_ | refine u_qr ?_ | refine u_ls ?_ | refine u_qs ?_ | refine u_t ?_ | refine u_f ?_ | refine v_s ?_ | refine v_o ?_ | refine v_on ?_ | refine v_og ?_ | refine v_q ?_ | refine v_sr ?_ | refine v_k ?_ | refine m_nil ?_)
  refine awp_toRows 12 2 1 rfl rfl rfl rfl ?_
  refine awp_perm _ rfl ?_
  refine awp_loop (fun j : Nat => (j : Int) ≤ K) (fun j => [(3, .d (.ptr (.agg [.int .i64 s, .int .i64 o, rows nx, rows ou]))), (5, .ref 500 0), (6, .own 12), (7, .d (.int .i64 (K - j)))])
    (fun j => [(12, .rows 37 2 1 (rws (psR code L s1 j).1) none), (500, srcB code (psR code L s1 j).2)]) (fun j => K.toNat - j) 0 (by omega) ?_ (by as_aux_lemma => kernel_rfl) ?_
  · refine ⟨rfl, rfl, rfl, ?_, trivial⟩
    show SV.d (.int .i64 K) = SV.d (.int .i64 (K - ((0 : Nat) : Int)))
    simp
  · intro j hj
    have hlj := psR_len (code := code) (L := L) (s := s1) j
    have hrl := rws_length (psR code L s1 j).1
    have hkj := hR j
    by_cases hjl : (j : Int) < K
    · have hst : psR code L s1 (j + 1) = ((psR code L s1 j).1 ++ [(psW code L (pickS code 6 (psR code L s1 j).2) (pickV code 6 (psR code L s1 j).2).toNat).1], (psW code L (pickS code 6 (psR code L s1 j).2) (pickV code 6 (psR code L s1 j).2).toNat).2) := rfl
      generalize psR code L s1 j = r at *
      have q1 := hP _ _ 6 hkj (by omega) (by omega)
      have hw := pick_range (s := r.2) (n := 6) hb (by omega)
      have hk1 := pick_ok (code := code) (n := 6) hkj
      generalize pickV code 6 r.2 = W at *
      generalize pickS code 6 r.2 = s2 at *
      have hnx : K - j - 1 = K - ((j + 1 : Nat) : Int) := by omega
      repeat (first | refine v_w (t := 19) ?_ | refine awp_seq ?_ | refine then_n ?_ | refine then_r ?_ | refine then_x ?_ | refine block_n ?_ | refine block_r ?_ | refine block_x ?_ | refine u_y ?_ | refine loop_r ?_ | refine loop_x ?_ | refine awp_region ?_ | refine awpL_nil ?_ | refine awpQL_nil ?_ | refine awp_block ?_ | refine awp_skip ?_ | refine awp_exit ?_ | refine awp_label ?_ | refine u_dT ?_ | refine u_d ?_ | refine u_w (t := 19) ?_ | refine u_l ?_ | refine u_o ?_ | refine u_q ?_ | refine u_lr ?_ | refine u_qr ?_ | refine u_ls ?_ | refine u_qs ?_ | refine u_t ?_ | refine u_f ?_ | refine v_s ?_ | refine v_o ?_ | refine v_on ?_ | refine v_og ?_ | refine v_q ?_ | refine v_sr ?_ | refine v_k ?_ | refine m_nil ?_)
      refine hcl [(500, 10000)] [(10000, 500)] q1 ?_
      repeat (first | refine awp_seq ?_ | refine then_n ?_ | refine then_r ?_ | refine then_x ?_ | refine block_n ?_ | refine block_r ?_ | refine block_x ?_ | refine u_y ?_ | refine loop_r ?_ | refine loop_x ?_ | refine awp_region ?_ | refine awpL_nil ?_ | refine awpQL_nil ?_ | refine awp_block ?_ | refine awp_skip ?_ | refine awp_exit ?_ | refine awp_label ?_ | refine u_dT ?_ | refine u_d ?_ | refine u_l ?_ | refine u_o ?_ | refine u_q ?_ | refine u_lr ?_ | refine u_qr ?_ | refine u_ls ?_ | refine u_qs ?_ | refine u_t ?_ | refine u_f ?_ | refine v_s ?_ | refine v_o ?_ | refine v_on ?_ | refine v_og ?_ | refine v_q ?_ | refine v_sr ?_ | refine v_k ?_ | refine m_nil ?_)
      refine awp_perm _ rfl ?_
      refine awp_loop (fun i : Nat => (i : Int) ≤ W) (fun i => [(3, .d (.ptr (.agg [.int .i64 s, .int .i64 o, rows nx, rows ou]))), (5, .ref 500 0), (6, .own 12), (7, .d (.int .i64 (K - j))), (8, .own 19), (9, .d (.int .i64 (W - i)))])
        (fun i => [(12, .rows 37 2 1 (rws r.1) none), (19, .arr 2 1 ((psW code L s2 i).1.map (.int .i64))), (500, srcB code (psW code L s2 i).2)]) (fun i => W.toNat - i) 0 (by omega) ?_ (by as_aux_lemma => kernel_rfl) ?_
      · refine ⟨rfl, rfl, rfl, rfl, rfl, ?_, trivial⟩
        show SV.d (.int .i64 W) = SV.d (.int .i64 (W - ((0 : Nat) : Int)))
        simp
      · intro i hi
        have hkw := psW_ok (code := code) (L := L) hk1 i
        have hlw2 := psW_len (code := code) (L := L) (s := s2) i
        have hlw : ((psW code L s2 i).1.map (D.int .i64)).length = i := by rw [List.length_map, psW_len]
        by_cases hil : (i : Int) < W
        · have q2 := hP _ _ L hkw (by omega) (by omega)
          have hsw : psW code L s2 (i + 1) = ((psW code L s2 i).1 ++ [pickV code L (psW code L s2 i).2], pickS code L (psW code L s2 i).2) := rfl
          generalize psW code L s2 i = t at *
          have hni : W - i - 1 = W - ((i + 1 : Nat) : Int) := by omega
          rw [hLe] at q2 hsw
          repeat (first | refine awp_seq ?_ | refine then_n ?_ | refine then_r ?_ | refine then_x ?_ | refine block_n ?_ | refine block_r ?_ | refine block_x ?_ | refine u_y ?_ | refine loop_r ?_ | refine loop_x ?_ | refine awp_region ?_ | refine awpL_nil ?_ | refine awpQL_nil ?_ | refine awp_block ?_ | refine awp_skip ?_ | refine awp_exit ?_ | refine awp_label ?_ | refine u_dT ?_ | refine u_d ?_ | refine u_l ?_ | refine u_o ?_ | refine u_q ?_ | refine u_lr ?_ | refine u_qr ?_ | refine u_ls ?_ | refine u_qs ?_ | refine u_t ?_ | refine u_f ?_ | refine v_s ?_ | refine v_o ?_ | refine v_on ?_ | refine v_og ?_ | refine v_q ?_ | refine v_sr ?_ | refine v_k ?_ | refine m_nil ?_)
          refine hcl [(500, 10000)] [(10000, 500)] q2 ?_
          repeat (first | refine awp_seq ?_ | refine then_n ?_ | refine then_r ?_ | refine then_x ?_ | refine block_n ?_ | refine block_r ?_ | refine block_x ?_ | refine u_y ?_ | refine loop_r ?_ | refine loop_x ?_ | refine awpL_nil ?_ | refine awpQL_nil ?_ | refine awp_block ?_ | refine awp_skip ?_ | refine awp_exit ?_ | refine awp_label ?_ | refine u_dT ?_ | refine u_d ?_ | refine u_l ?_ | refine u_o ?_ | refine u_q ?_ | refine u_lr ?_ | refine u_qr ?_ | refine u_ls ?_ | refine u_qs ?_ | refine u_t ?_ | refine u_f ?_ | refine v_s ?_ | refine v_o ?_ | refine v_on ?_ | refine v_og ?_ | refine v_q ?_ | refine v_sr ?_ | refine v_k ?_ | refine m_nil ?_)
          refine awp_perm _ rfl ?_
          repeat (first | refine awp_seq ?_ | refine then_n ?_ | refine then_r ?_ | refine then_x ?_ | refine block_n ?_ | refine block_r ?_ | refine block_x ?_ | refine u_y ?_ | refine loop_r ?_ | refine loop_x ?_ | refine awp_region ?_ | refine awpL_nil ?_ | refine awpQL_nil ?_ | refine awp_block ?_ | refine awp_skip ?_ | refine awp_exit ?_ | refine awp_label ?_ | refine u_dT ?_ | refine u_d ?_ | refine u_l ?_ | refine u_o ?_ | refine u_q ?_ | refine u_lr ?_ | refine u_qr ?_ | refine u_ls ?_ | refine u_qs ?_ | refine u_t ?_ | refine u_f ?_ | refine v_s ?_ | refine v_o ?_ | refine v_on ?_ | refine v_og ?_ | refine v_q ?_ | refine v_sr ?_ | refine v_k ?_ | refine m_nil ?_)
          refine loop_n (i + 1) (by omega) ?_ ?_ (by omega)
          · rw [← hni]; ((repeat (first | exact trivial | (refine ⟨?_, ?_⟩; (focus (first | rfl | (simp [lk, argsS, args0]; done) | (simp [lk, argsS, args0]; omega)))))))
          · rw [hLe, hsw]; simp only [List.map_append]; (as_aux_lemma => kernel_rfl)
        · have hiW : i = W.toNat := by omega
          subst hiW
          have ra : rws (r.1 ++ [(psW code L s2 W.toNat).1]) = rws r.1 ++ [(psW code L s2 W.toNat).1.map (.int .i64)] := by simp [rws]
          repeat (first | refine awp_seq ?_ | refine then_n ?_ | refine then_r ?_ | refine then_x ?_ | refine block_n ?_ | refine block_r ?_ | refine block_x ?_ | refine u_y ?_ | refine loop_r ?_ | refine loop_x ?_ | refine awpL_nil ?_ | refine awpQL_nil ?_ | refine awp_block ?_ | refine awp_skip ?_ | refine awp_exit ?_ | refine awp_label ?_ | refine u_dT ?_ | refine u_d ?_ | refine u_l ?_ | refine u_o ?_ | refine u_q ?_ | refine u_lr ?_ | refine u_qr ?_ | refine u_ls ?_ | refine u_qs ?_ | refine u_t ?_ | refine u_f ?_ | refine v_s ?_ | refine v_o ?_ | refine v_on ?_ | refine v_og ?_ | refine v_q ?_ | refine v_sr ?_ | refine v_k ?_ | refine m_nil ?_)
          refine awp_region ?_
          repeat (first | refine awp_seq ?_ | refine then_n ?_ | refine then_r ?_ | refine then_x ?_ | refine block_n ?_ | refine block_r ?_ | refine block_x ?_ | refine u_y ?_ | refine loop_r ?_ | refine loop_x ?_ | refine awpL_nil ?_ | refine awpQL_nil ?_ | refine awp_block ?_ | refine awp_skip ?_ | refine awp_exit ?_ | refine awp_label ?_ | refine u_dT ?_ | refine u_d ?_ | refine u_l ?_ | refine u_o ?_ | refine u_q ?_ | refine u_lr ?_ | refine u_qr ?_ | refine u_ls ?_ | refine u_qs ?_ | refine u_t ?_ | refine u_f ?_ | refine v_s ?_ | refine v_o ?_ | refine v_on ?_ | refine v_og ?_ | refine v_q ?_ | refine v_sr ?_ | refine v_k ?_ | refine m_nil ?_)
          refine awp_region ?_
          repeat (first | refine awp_seq ?_ | refine then_n ?_ | refine then_r ?_ | refine then_x ?_ | refine block_n ?_ | refine block_r ?_ | refine block_x ?_ | refine u_y ?_ | refine loop_r ?_ | refine loop_x ?_ | refine awpL_nil ?_ | refine awpQL_nil ?_ | refine awp_block ?_ | refine awp_skip ?_ | refine awp_exit ?_ | refine awp_label ?_ | refine u_dT ?_ | refine u_d ?_ | refine u_l ?_ | refine u_o ?_ | refine u_q ?_ | refine u_lr ?_ | refine u_qr ?_ | refine u_ls ?_ | refine u_qs ?_ | refine u_t ?_ | refine u_f ?_ | refine v_s ?_ | refine v_o ?_ | refine v_on ?_ | refine v_og ?_ | refine v_q ?_ | refine v_sr ?_ | refine v_k ?_ | refine m_nil ?_)
          refine awp_perm _ rfl ?_
          repeat (first | refine awp_seq ?_ | refine then_n ?_ | refine then_r ?_ | refine then_x ?_ | refine block_n ?_ | refine block_r ?_ | refine block_x ?_ | refine u_y ?_ | refine loop_r ?_ | refine loop_x ?_ | refine awp_region ?_ | refine awpL_nil ?_ | refine awpQL_nil ?_ | refine awp_block ?_ | refine awp_skip ?_ | refine awp_exit ?_ | refine awp_label ?_ | refine u_dT ?_ | refine u_d ?_ | refine u_l ?_ | refine u_o ?_ | refine u_q ?_ | refine u_lr ?_ | refine u_qr ?_ | refine u_ls ?_ | refine u_qs ?_ | refine u_t ?_ | refine u_f ?_ | refine v_s ?_ | refine v_o ?_ | refine v_on ?_ | refine v_og ?_ | refine v_q ?_ | refine v_sr ?_ | refine v_k ?_ | refine m_nil ?_)
          refine loop_n (j + 1) (by omega) ?_ ?_ (by omega)
          · rw [← hnx]; ((repeat (first | exact trivial | (refine ⟨?_, ?_⟩; (focus (first | rfl | (simp [lk, argsS, args0]; done) | (simp [lk, argsS, args0]; omega)))))))
          · rw [hst]; simp only []; rw [ra]; (as_aux_lemma => kernel_rfl)
    · have hjK : j = K.toNat := by omega
      subst hjK
      repeat (first | refine awp_seq ?_ | refine then_n ?_ | refine then_r ?_ | refine then_x ?_ | refine block_n ?_ | refine block_r ?_ | refine block_x ?_ | refine u_y ?_ | refine loop_r ?_ | refine loop_x ?_ | refine awp_region ?_ | refine awpL_nil ?_ | refine awpQL_nil ?_ | refine awp_block ?_ | refine awp_skip ?_ | refine awp_exit ?_ | refine awp_label ?_ | refine u_dT ?_ | refine u_d ?_ | refine u_l ?_ | refine u_o ?_ | refine u_q ?_ | refine u_lr ?_ | refine u_qr ?_ | refine u_ls ?_ | refine u_qs ?_ | refine u_t ?_ | refine u_f ?_ | refine v_s ?_ | refine v_o ?_ | refine v_on ?_ | refine v_og ?_ | refine v_q ?_ | refine v_sr ?_ | refine v_k ?_ | refine m_nil ?_)
      (refine awp_ret ?_; (repeat (first | refine then_r ?_ | refine block_r ?_ | refine loop_r ?_)); refine u_rH [(12, 30000)] ?_ ?_)
      · rfl
      · rfl
theorem spec_P6Suite {code : List Int} {s o : Int} {nx ou : List (List Int)} (hb : BytesOk code) (hL : 1 ≤ nx.length ∧ nx.length ≤ 100) :
    AC Tryd.prog 13 [u8s code, mach s o nx ou] (rows (psM code nx.length)) := by
  have := ac_of_hc (xs := [u8s code, mach s o nx ou]) (d := .lst ((rws (psM code nx.length)).map D.lst)) (spec_P6SuiteH hb hL) rfl
  rw [rws_dat] at this
  exact this
end Go.Proofs.YtfondjnjdcijaaaDoor
