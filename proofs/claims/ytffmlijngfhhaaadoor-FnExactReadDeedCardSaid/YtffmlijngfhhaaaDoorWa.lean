/- Contracts of the small functions: limits of numbers, words of deeds, valid deeds. No condition. -/
import Derived.Test.YtffmlijngfhhaaaDoorTab
import Derived.Test.YtffmlijngfhhaaaDoorFwJ
import Derived.Test.YtffmlijngfhhaaaDoorFwT
namespace Go.Proofs.YtffmlijngfhhaaaDoor
open Go
attribute [local irreducible] awp awpL awpQL awpQ awpM pWalk Qt AC thenQ blockQ loopQ OpTo
set_option linter.unusedVariables false
set_option linter.unusedSimpArgs false
set_option maxHeartbeats 2000000

def inB (n lo hi : Int) : Bool := decide (lo ≤ n) && decide (n ≤ hi)

theorem impl_within {n lo hi : Int} : AC Tryd.prog 20 [.int .i64 n, .int .i64 lo, .int .i64 hi] (.bool (inB n lo hi)) := by
  refine ac_intro tabIs _ Tryd.func20 rfl rfl Tryd.ntmps20 rfl rfl fun w0 ok0 he0 => ?_
  repeat' (first | refine awp_seq ?_ | refine then_n ?_ | refine then_r ?_ | refine then_x ?_ | refine block_n ?_ | refine block_r ?_ | refine block_x ?_ | refine u_y ?_ | refine loop_r ?_ | refine loop_x ?_ | refine awp_region ?_ | refine awpL_nil ?_ | refine awpQL_nil ?_ | refine awp_block ?_ | refine awp_skip ?_ | refine awp_exit ?_ | refine awp_label ?_ | refine u_dT ?_ | refine u_d ?_ | refine u_l ?_ | refine u_o ?_ | refine u_q ?_ | refine u_lr ?_ | refine u_qr ?_ | refine u_ls ?_ | refine u_qs ?_ | refine u_t ?_ | refine u_f ?_ | refine v_s ?_ | refine v_o ?_ | refine v_on ?_ | refine v_og ?_ | refine v_q ?_ | refine v_sr ?_ | refine v_k ?_ | refine m_nil ?_ | ((first | refine u_sl ?_ ?_ | refine u_sq ?_ ?_) <;> (intro hb; try (simp at hb; done))) | (refine u_c ?_ ?_ <;> (intro hc; try (simp at hc; done))) | refine awp_ret ?_ | refine u_r ?_ | refine u_rC ?_)
  all_goals (first | (simp_all [inB]; done) | (simp_all [inB]; omega))

theorem spec_l00In {n lo hi : Int} : AC Tryd.prog 15 [.int .i64 n, .int .i64 lo, .int .i64 hi] (.bool (inB n lo hi)) := by
  refine ac_intro tabIs _ Tryd.func15 rfl rfl Tryd.ntmps15 rfl rfl fun w0 ok0 he0 => ?_
  repeat' (first | refine awp_seq ?_ | refine then_n ?_ | refine then_r ?_ | refine then_x ?_ | refine block_n ?_ | refine block_r ?_ | refine block_x ?_ | refine u_y ?_ | refine loop_r ?_ | refine loop_x ?_ | refine awp_region ?_ | refine awpL_nil ?_ | refine awpQL_nil ?_ | refine awp_block ?_ | refine awp_skip ?_ | refine awp_exit ?_ | refine awp_label ?_ | refine u_dT ?_ | refine u_d ?_ | refine u_l ?_ | refine u_o ?_ | refine u_q ?_ | refine u_lr ?_ | refine u_qr ?_ | refine u_ls ?_ | refine u_qs ?_ | refine u_t ?_ | refine u_f ?_ | refine v_s ?_ | refine v_o ?_ | refine v_on ?_ | refine v_og ?_ | refine v_q ?_ | refine v_sr ?_ | refine v_k ?_ | refine m_nil ?_ | ((first | refine u_sl ?_ ?_ | refine u_sq ?_ ?_) <;> (intro hb; try (simp at hb; done))) | (refine u_c ?_ ?_ <;> (intro hc; try (simp at hc; done))) | refine awp_ret ?_ | refine u_r ?_ | refine u_rC ?_)
  all_goals (first | (simp_all [inB]; done) | (simp_all [inB]; omega))

/-- The words of deeds. -/
def dwords : List (List UInt8) := [[], [111, 114, 100, 101, 114], [112, 111, 115, 116], [114, 101, 112, 111, 114, 116], [100, 101, 108, 105, 118, 101, 114], [99, 111, 112, 121], [100, 114, 111, 112], [106, 111, 108, 116], [115, 97, 118, 101], [99, 114, 97, 115, 104]]
def dtold : List Bool := [false, true, true, false, true, true, true, true, false, false]
def dword (k : Int) : List UInt8 := if 0 ≤ k then dwords.getD k.toNat [] else []
def dtell (k : Int) : Bool := if 0 ≤ k then dtold.getD k.toNat false else false

theorem impl_deedWord {k : Int} : AC Tryd.prog 19 [.int .i64 k] (.tup [.str (dword k), .bool (dtell k)]) := by
  by_cases hk : 1 ≤ k ∧ k ≤ 9
  · have : k = 1 ∨ k = 2 ∨ k = 3 ∨ k = 4 ∨ k = 5 ∨ k = 6 ∨ k = 7 ∨ k = 8 ∨ k = 9 := by omega
    clear hk
    rcases this with rfl | rfl | rfl | rfl | rfl | rfl | rfl | rfl | rfl
    all_goals
      refine ac_intro tabIs _ Tryd.func19 rfl rfl Tryd.ntmps19 rfl rfl fun w0 ok0 he0 => ?_
      repeat' (first | refine awp_seq ?_ | refine then_n ?_ | refine then_r ?_ | refine then_x ?_ | refine block_n ?_ | refine block_r ?_ | refine block_x ?_ | refine u_y ?_ | refine loop_r ?_ | refine loop_x ?_ | refine awp_region ?_ | refine awpL_nil ?_ | refine awpQL_nil ?_ | refine awp_block ?_ | refine awp_skip ?_ | refine awp_exit ?_ | refine awp_label ?_ | refine u_dT ?_ | refine u_d ?_ | refine u_l ?_ | refine u_o ?_ | refine u_q ?_ | refine u_lr ?_ | refine u_qr ?_ | refine u_ls ?_ | refine u_qs ?_ | refine u_t ?_ | refine u_f ?_ | refine v_s ?_ | refine v_o ?_ | refine v_on ?_ | refine v_og ?_ | refine v_q ?_ | refine v_sr ?_ | refine v_k ?_ | refine m_nil ?_ | ((first | refine u_sl ?_ ?_ | refine u_sq ?_ ?_) <;> (intro hb; try (simp at hb; done))) | (refine u_c ?_ ?_ <;> (intro hc; try (simp at hc; done))) | refine awp_ret ?_ | refine u_r ?_ | refine u_rC ?_)
      rfl
  · have e : dword k = [] ∧ dtell k = false := by
      unfold dword dtell
      by_cases h0 : 0 ≤ k
      · rw [if_pos h0, if_pos h0]
        by_cases h1 : k = 0
        · subst h1; exact ⟨rfl, rfl⟩
        · have h2 : 10 ≤ k.toNat := by omega
          rw [List.getD_eq_getElem?_getD, List.getD_eq_getElem?_getD, List.getElem?_eq_none (by simpa [dwords] using h2), List.getElem?_eq_none (by simpa [dtold] using h2)]
          exact ⟨rfl, rfl⟩
      · rw [if_neg h0, if_neg h0]; exact ⟨rfl, rfl⟩
    have n1 : ¬ k = 1 := by omega
    have n2 : ¬ k = 2 := by omega
    have n3 : ¬ k = 3 := by omega
    have n4 : ¬ k = 4 := by omega
    have n5 : ¬ k = 5 := by omega
    have n6 : ¬ k = 6 := by omega
    have n7 : ¬ k = 7 := by omega
    have n8 : ¬ k = 8 := by omega
    have n9 : ¬ k = 9 := by omega
    clear hk
    refine ac_intro tabIs _ Tryd.func19 rfl rfl Tryd.ntmps19 rfl rfl fun w0 ok0 he0 => ?_
    repeat' (first | refine awp_seq ?_ | refine then_n ?_ | refine then_r ?_ | refine then_x ?_ | refine block_n ?_ | refine block_r ?_ | refine block_x ?_ | refine u_y ?_ | refine loop_r ?_ | refine loop_x ?_ | refine awp_region ?_ | refine awpL_nil ?_ | refine awpQL_nil ?_ | refine awp_block ?_ | refine awp_skip ?_ | refine awp_exit ?_ | refine awp_label ?_ | refine u_dT ?_ | refine u_d ?_ | refine u_l ?_ | refine u_o ?_ | refine u_q ?_ | refine u_lr ?_ | refine u_qr ?_ | refine u_ls ?_ | refine u_qs ?_ | refine u_t ?_ | refine u_f ?_ | refine v_s ?_ | refine v_o ?_ | refine v_on ?_ | refine v_og ?_ | refine v_q ?_ | refine v_sr ?_ | refine v_k ?_ | refine m_nil ?_ | ((first | refine u_sl ?_ ?_ | refine u_sq ?_ ?_) <;> (intro hb; try (simp at hb; done))) | (refine u_c ?_ ?_ <;> (intro hc; try (simp at hc; done))) | refine awp_ret ?_ | refine u_r ?_ | refine u_rC ?_)
    rw [e.1, e.2]

theorem spec_l08Words : AC Tryd.prog 8 [] (.tup [.lst (dwords.map .str), .lst (dtold.map .bool)]) := by
  refine ac_intro tabIs _ Tryd.func8 rfl rfl Tryd.ntmps8 rfl rfl fun w0 ok0 he0 => ?_
  repeat' (first | refine awp_seq ?_ | refine then_n ?_ | refine then_r ?_ | refine then_x ?_ | refine block_n ?_ | refine block_r ?_ | refine block_x ?_ | refine u_y ?_ | refine loop_r ?_ | refine loop_x ?_ | refine awp_region ?_ | refine awpL_nil ?_ | refine awpQL_nil ?_ | refine awp_block ?_ | refine awp_skip ?_ | refine awp_exit ?_ | refine awp_label ?_ | refine u_dT ?_ | refine u_d ?_ | refine u_l ?_ | refine u_o ?_ | refine u_q ?_ | refine u_lr ?_ | refine u_qr ?_ | refine u_ls ?_ | refine u_qs ?_ | refine u_t ?_ | refine u_f ?_ | refine v_s ?_ | refine v_o ?_ | refine v_on ?_ | refine v_og ?_ | refine v_q ?_ | refine v_sr ?_ | refine v_k ?_ | refine m_nil ?_ | ((first | refine u_sl ?_ ?_ | refine u_sq ?_ ?_) <;> (intro hb; try (simp at hb; done))) | (refine u_c ?_ ?_ <;> (intro hc; try (simp at hc; done))) | refine awp_ret ?_ | refine u_r ?_ | refine u_rC ?_)
  rfl

theorem dword_nil (k : Int) : decide (dword k = []) = !inB k 1 9 := by
  by_cases hk : 1 ≤ k ∧ k ≤ 9
  · have : k = 1 ∨ k = 2 ∨ k = 3 ∨ k = 4 ∨ k = 5 ∨ k = 6 ∨ k = 7 ∨ k = 8 ∨ k = 9 := by omega
    rcases this with rfl | rfl | rfl | rfl | rfl | rfl | rfl | rfl | rfl <;> decide
  · have e : dword k = [] := by
      unfold dword
      by_cases h0 : 0 ≤ k
      · rw [if_pos h0]
        by_cases h1 : k = 0
        · subst h1; rfl
        · rw [List.getD_eq_getElem?_getD, List.getElem?_eq_none (by simp [dwords]; omega)]; rfl
      · rw [if_neg h0]
    rw [e]
    simp [inB]
    omega

def vdeed (k a : Int) : Bool := inB k 1 9 && inB a 0 999 && (dtell k || decide (a = 0))

theorem spec_l08Deed {k a : Int} : AC Tryd.prog 10 [.agg [.int .i64 k, .int .i64 a]] (.bool (vdeed k a)) := by
  by_cases h1 : inB k 1 9 = true
  · have hk : 1 ≤ k ∧ k ≤ 9 := by simpa [inB] using h1
    have hx : (dtold.map D.bool)[k.toNat]? = some (.bool (dtell k)) := by
      unfold dtell
      rw [if_pos (by omega), List.getD_eq_getElem?_getD]
      have : k.toNat < dtold.length := by simp [dtold]; omega
      simp [this]
    have hk0 : 0 ≤ k := by omega
    refine ac_intro tabIs _ Tryd.func10 rfl rfl Tryd.ntmps10 rfl rfl fun w0 ok0 he0 => ?_
    repeat' (first | refine awp_seq ?_ | refine then_n ?_ | refine then_r ?_ | refine then_x ?_ | refine block_n ?_ | refine block_r ?_ | refine block_x ?_ | refine u_y ?_ | refine loop_r ?_ | refine loop_x ?_ | refine awp_region ?_ | refine awpL_nil ?_ | refine awpQL_nil ?_ | refine awp_block ?_ | refine awp_skip ?_ | refine awp_exit ?_ | refine awp_label ?_ | refine u_dT ?_ | refine u_d ?_ | ((first | apply c_l | apply c_q | apply c_lr | apply c_qr); (iterate 2 exact rfl); (focus (first | exact spec_l00In | exact spec_l08Words)); (iterate 2 exact rfl)) | (apply v_c; (iterate 4 exact rfl); (focus (first | exact spec_l00In | exact spec_l08Words)); (iterate 2 exact rfl)) | refine u_l ?_ | refine u_o ?_ | refine u_q ?_ | refine u_lr ?_ | refine u_qr ?_ | refine u_ls ?_ | refine u_qs ?_ | refine u_t ?_ | refine u_f ?_ | refine v_s ?_ | refine v_o ?_ | refine v_on ?_ | refine v_og ?_ | refine v_q ?_ | refine v_sr ?_ | refine v_k ?_ | refine m_nil ?_ | ((first | refine u_sl ?_ ?_ | refine u_sq ?_ ?_) <;> (intro hb; try (simp at hb; done))) | (refine u_c ?_ ?_ <;> (intro hc; try (simp at hc; done))) | refine awp_ret ?_ | refine u_r ?_ | refine u_rC ?_)
    all_goals simp_all [vdeed]
  · have h1' : inB k 1 9 = false := by simpa using h1
    refine ac_intro tabIs _ Tryd.func10 rfl rfl Tryd.ntmps10 rfl rfl fun w0 ok0 he0 => ?_
    repeat' (first | refine awp_seq ?_ | refine then_n ?_ | refine then_r ?_ | refine then_x ?_ | refine block_n ?_ | refine block_r ?_ | refine block_x ?_ | refine u_y ?_ | refine loop_r ?_ | refine loop_x ?_ | refine awp_region ?_ | refine awpL_nil ?_ | refine awpQL_nil ?_ | refine awp_block ?_ | refine awp_skip ?_ | refine awp_exit ?_ | refine awp_label ?_ | refine u_dT ?_ | refine u_d ?_ | ((first | apply c_l | apply c_q | apply c_lr | apply c_qr); (iterate 2 exact rfl); (focus (first | exact spec_l00In | exact spec_l08Words)); (iterate 2 exact rfl)) | (apply v_c; (iterate 4 exact rfl); (focus (first | exact spec_l00In | exact spec_l08Words)); (iterate 2 exact rfl)) | refine u_l ?_ | refine u_o ?_ | refine u_q ?_ | refine u_lr ?_ | refine u_qr ?_ | refine u_ls ?_ | refine u_qs ?_ | refine u_t ?_ | refine u_f ?_ | refine v_s ?_ | refine v_o ?_ | refine v_on ?_ | refine v_og ?_ | refine v_q ?_ | refine v_sr ?_ | refine v_k ?_ | refine m_nil ?_ | ((first | refine u_sl ?_ ?_ | refine u_sq ?_ ?_) <;> (intro hb; try (simp at hb; done))) | (refine u_c ?_ ?_ <;> (intro hc; try (simp at hc; done))) | refine awp_ret ?_ | refine u_r ?_ | refine u_rC ?_)
    all_goals simp_all [vdeed]

theorem impl_ValidDeed {k a : Int} : AC Tryd.prog 13 [.agg [.int .i64 k, .int .i64 a]] (.bool (vdeed k a)) := by
  have e := dword_nil k
  refine ac_intro tabIs _ Tryd.func13 rfl rfl Tryd.ntmps13 rfl rfl fun w0 ok0 he0 => ?_
  repeat' (first | refine awp_seq ?_ | refine then_n ?_ | refine then_r ?_ | refine then_x ?_ | refine block_n ?_ | refine block_r ?_ | refine block_x ?_ | refine u_y ?_ | refine loop_r ?_ | refine loop_x ?_ | refine awp_region ?_ | refine awpL_nil ?_ | refine awpQL_nil ?_ | refine awp_block ?_ | refine awp_skip ?_ | refine awp_exit ?_ | refine awp_label ?_ | refine u_dT ?_ | refine u_d ?_ | ((first | apply c_l | apply c_q | apply c_lr | apply c_qr); (iterate 2 exact rfl); (focus (first | exact impl_deedWord | exact impl_within)); (iterate 2 exact rfl)) | (apply v_c; (iterate 4 exact rfl); (focus (first | exact impl_deedWord | exact impl_within)); (iterate 2 exact rfl)) | refine u_l ?_ | refine u_o ?_ | refine u_q ?_ | refine u_lr ?_ | refine u_qr ?_ | refine u_ls ?_ | refine u_qs ?_ | refine u_t ?_ | refine u_f ?_ | refine v_s ?_ | refine v_o ?_ | refine v_on ?_ | refine v_og ?_ | refine v_q ?_ | refine v_sr ?_ | refine v_k ?_ | refine m_nil ?_ | ((first | refine u_sl ?_ ?_ | refine u_sq ?_ ?_) <;> (intro hb; try (simp at hb; done))) | (refine u_c ?_ ?_ <;> (intro hc; try (simp at hc; done))) | refine awp_ret ?_ | refine u_r ?_ | refine u_rC ?_)
  all_goals (rw [e] at *; simp_all [vdeed])

end Go.Proofs.YtffmlijngfhhaaaDoor

/-! Contracts of what the laws' package does with its arguments: sizes, copies, comparisons of lists of numbers and of lists of such lists. No condition. -/
namespace Go.Proofs.YtffmlijngfhhaaaDoor
open Go
attribute [local irreducible] awp awpL awpQL awpQ awpM pWalk Qt AC thenQ blockQ loopQ OpTo
set_option linter.unusedVariables false
set_option linter.unusedSimpArgs false
set_option maxHeartbeats 2000000

end Go.Proofs.YtffmlijngfhhaaaDoor

/-! Contracts of what tells valid automata, machines, words, suites and lit automata, in the program and in the reference. No condition. -/
namespace Go.Proofs.YtffmlijngfhhaaaDoor
open Go
attribute [local irreducible] awp awpL awpQL awpQ awpM pWalk Qt AC thenQ blockQ loopQ OpTo
set_option linter.unusedVariables false
set_option linter.unusedSimpArgs false
set_option maxHeartbeats 2000000

end Go.Proofs.YtffmlijngfhhaaaDoor

/-! Contracts of what tells valid automata and lit automata in the reference. No condition. -/
namespace Go.Proofs.YtffmlijngfhhaaaDoor
open Go
attribute [local irreducible] awp awpL awpQL awpQ awpM pWalk Qt AC thenQ blockQ loopQ OpTo
set_option linter.unusedVariables false
set_option linter.unusedSimpArgs false
set_option maxHeartbeats 2000000

end Go.Proofs.YtffmlijngfhhaaaDoor

/-! Contracts of how the laws' package measures, copies and compares lit automata; the law of ValidLit. No condition. -/
namespace Go.Proofs.YtffmlijngfhhaaaDoor
open Go
attribute [local irreducible] awp awpL awpQL awpQ awpM pWalk Qt AC thenQ blockQ loopQ OpTo
set_option linter.unusedVariables false
set_option linter.unusedSimpArgs false
set_option maxHeartbeats 2000000

end Go.Proofs.YtffmlijngfhhaaaDoor

/-! Contracts of what tells valid machines, words, suites and how many mutants a machine has, in the program and in the reference. No condition. -/
namespace Go.Proofs.YtffmlijngfhhaaaDoor
open Go
attribute [local irreducible] awp awpL awpQL awpQ awpM pWalk Qt AC thenQ blockQ loopQ OpTo
set_option linter.unusedVariables false
set_option linter.unusedSimpArgs false
set_option maxHeartbeats 2000000

end Go.Proofs.YtffmlijngfhhaaaDoor

/-! Contracts of words, suites and numbers of mutants, of how the laws' package treats machines; the laws of MutantCount and of ValidSuite. No condition. -/
namespace Go.Proofs.YtffmlijngfhhaaaDoor
open Go
attribute [local irreducible] awp awpL awpQL awpQ awpM pWalk Qt AC thenQ blockQ loopQ OpTo
set_option linter.unusedVariables false
set_option linter.unusedSimpArgs false
set_option maxHeartbeats 2000000

end Go.Proofs.YtffmlijngfhhaaaDoor
