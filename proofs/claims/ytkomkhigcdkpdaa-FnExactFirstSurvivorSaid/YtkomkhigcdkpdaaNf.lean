/- MutantAt, in the reference and in the program, and its law. No condition. -/
import Derived.Test.YtkomkhigcdkpdaaNc
import Derived.Test.YtkomkhigcdkpdaaNe
namespace Go.Proofs.Ytkomkhigcdkpdaa
open Go
attribute [local irreducible] awp awpL awpQL awpQ awpM pWalk Qt AC thenQ blockQ loopQ OpTo
set_option linter.unusedVariables false
set_option linter.unusedSimpArgs false
set_option maxHeartbeats 2000000
attribute [local irreducible] HC

theorem inB_iff {n lo hi : Int} : inB n lo hi = true ↔ lo ≤ n ∧ n ≤ hi := by simp [inB]

theorem impl_code {s o : Int} {nx ou : List (List Int)} {g : Nat} {cap : List D} {b : Bool} (h1 : RowsOk nx) (h2 : RowsOk ou) (hg : machOk s o nx ou = true → AC Try.prog g cap (.bool b)) :
    AC Try.prog 63 [mach s o nx ou, .fn g cap] (.int .i64 (if machOk s o nx ou then (if b then 0 else 2) else 1)) := by
  have e1 := impl_ValidMachine (s := s) (o := o) h1 h2
  by_cases hv : machOk s o nx ou = true
  · have e2 := hg hv
    rw [hv] at e1 ⊢
    cases b with
    | true =>
      refine ac_intro tabIs _ Try.func63 rfl rfl Try.ntmps63 rfl rfl fun w0 ok0 => ?_
      repeat (first | refine awp_seq ?_ | refine then_n ?_ | refine then_r ?_ | refine then_x ?_ | refine block_n ?_ | refine block_r ?_ | refine block_x ?_ | refine u_y ?_ | refine loop_r ?_ | refine loop_x ?_ | refine awp_region ?_ | refine awpL_nil ?_ | refine awpQL_nil ?_ | refine awp_block ?_ | refine awp_skip ?_ | refine awp_exit ?_ | refine awp_label ?_ | refine u_dT ?_ | refine u_d ?_ | ((first | apply c_l | apply c_q | apply c_lr | apply c_qr); (iterate 2 exact rfl); (focus (first | exact e1 | exact e2)); (iterate 2 exact rfl)) | (apply v_c; (iterate 4 exact rfl); (focus (first | exact e1 | exact e2)); (iterate 2 exact rfl)) | refine u_l ?_ | refine u_o ?_ | refine u_q ?_ | refine u_lr ?_ | refine u_qr ?_ | refine u_ls ?_ | refine u_qs ?_ | refine u_t ?_ | refine u_f ?_ | refine v_s ?_ | refine v_o ?_ | refine v_on ?_ | refine v_og ?_ | refine v_q ?_ | refine v_sr ?_ | refine v_k ?_ | refine m_nil ?_)
      (refine awp_ret ?_; (repeat (first | refine then_r ?_ | refine block_r ?_ | refine loop_r ?_)); apply ret_ok (.inr rfl); (focus exact rfl))
      rfl
    | false =>
      refine ac_intro tabIs _ Try.func63 rfl rfl Try.ntmps63 rfl rfl fun w0 ok0 => ?_
      repeat (first | refine awp_seq ?_ | refine then_n ?_ | refine then_r ?_ | refine then_x ?_ | refine block_n ?_ | refine block_r ?_ | refine block_x ?_ | refine u_y ?_ | refine loop_r ?_ | refine loop_x ?_ | refine awp_region ?_ | refine awpL_nil ?_ | refine awpQL_nil ?_ | refine awp_block ?_ | refine awp_skip ?_ | refine awp_exit ?_ | refine awp_label ?_ | refine u_dT ?_ | refine u_d ?_ | ((first | apply c_l | apply c_q | apply c_lr | apply c_qr); (iterate 2 exact rfl); (focus (first | exact e1 | exact e2)); (iterate 2 exact rfl)) | (apply v_c; (iterate 4 exact rfl); (focus (first | exact e1 | exact e2)); (iterate 2 exact rfl)) | refine u_l ?_ | refine u_o ?_ | refine u_q ?_ | refine u_lr ?_ | refine u_qr ?_ | refine u_ls ?_ | refine u_qs ?_ | refine u_t ?_ | refine u_f ?_ | refine v_s ?_ | refine v_o ?_ | refine v_on ?_ | refine v_og ?_ | refine v_q ?_ | refine v_sr ?_ | refine v_k ?_ | refine m_nil ?_)
      (refine awp_ret ?_; (repeat (first | refine then_r ?_ | refine block_r ?_ | refine loop_r ?_)); apply ret_ok (.inr rfl); (focus exact rfl))
      rfl
  · have hv' : machOk s o nx ou = false := by simpa using hv
    rw [hv'] at e1 ⊢
    refine ac_intro tabIs _ Try.func63 rfl rfl Try.ntmps63 rfl rfl fun w0 ok0 => ?_
    repeat (first | refine awp_seq ?_ | refine then_n ?_ | refine then_r ?_ | refine then_x ?_ | refine block_n ?_ | refine block_r ?_ | refine block_x ?_ | refine u_y ?_ | refine loop_r ?_ | refine loop_x ?_ | refine awp_region ?_ | refine awpL_nil ?_ | refine awpQL_nil ?_ | refine awp_block ?_ | refine awp_skip ?_ | refine awp_exit ?_ | refine awp_label ?_ | refine u_dT ?_ | refine u_d ?_ | ((first | apply c_l | apply c_q | apply c_lr | apply c_qr); (iterate 2 exact rfl); (focus (first | exact e1)); (iterate 2 exact rfl)) | (apply v_c; (iterate 4 exact rfl); (focus (first | exact e1)); (iterate 2 exact rfl)) | refine u_l ?_ | refine u_o ?_ | refine u_q ?_ | refine u_lr ?_ | refine u_qr ?_ | refine u_ls ?_ | refine u_qs ?_ | refine u_t ?_ | refine u_f ?_ | refine v_s ?_ | refine v_o ?_ | refine v_on ?_ | refine v_og ?_ | refine v_q ?_ | refine v_sr ?_ | refine v_k ?_ | refine m_nil ?_)
    (refine awp_ret ?_; (repeat (first | refine then_r ?_ | refine block_r ?_ | refine loop_r ?_)); apply ret_ok (.inr rfl); (focus exact rfl))
    rfl

/-- What MutantAt returns. -/
def mutAt (s o : Int) (nx ou : List (List Int)) (k : Int) : (Int × Int) × (List (List Int) × List (List Int)) × Int :=
  if machOk s o nx ou then (if inB k 0 (mutN s o nx.length - 1) then ((s, o), mutX s o nx ou k, 0) else ((0, 0), ([], []), 2)) else ((0, 0), ([], []), 1)

theorem mutAt_small {s o k : Int} {nx ou : List (List Int)} : RowsOk (mutAt s o nx ou k).2.1.1 ∧ RowsOk (mutAt s o nx ou k).2.1.2 ∧ ((mutAt s o nx ou k).2.1.1.length ≤ 3 ∧ ∀ ns ∈ (mutAt s o nx ou k).2.1.1, ns.length ≤ 10) ∧ ((mutAt s o nx ou k).2.1.2.length ≤ 3 ∧ ∀ ns ∈ (mutAt s o nx ou k).2.1.2, ns.length ≤ 10) := by
  unfold mutAt
  split
  · rename_i hv
    have m := mv_of hv
    split
    · rename_i hr
      have hk := inB_iff.1 hr
      obtain ⟨m', hl⟩ := mv_mut m (k := k) (by omega)
      have n1 := m'.n1
      have s1 := m'.s1
      exact ⟨m'.rnx, m'.rou, ⟨n1.2, fun ns h => by have := (m'.nx ns h).1; omega⟩, by rw [m'.eq]; exact n1.2, fun ns h => by have := (m'.ou ns h).1; omega⟩
    · exact ⟨⟨by simp, by simp⟩, ⟨by simp, by simp⟩, ⟨by simp, by simp⟩, by simp, by simp⟩
  · exact ⟨⟨by simp, by simp⟩, ⟨by simp, by simp⟩, ⟨by simp, by simp⟩, by simp, by simp⟩

theorem tot_boundN {nss : List (List Int)} {m : Nat} (h : ∀ ns ∈ nss, ns.length ≤ m) : tot nss ≤ nss.length * m := by
  induction nss with
  | nil => simp [tot]
  | cons x l ih =>
    have h1 := h x (List.mem_cons_self ..)
    have h2 := ih fun ns hn => h ns (List.mem_cons_of_mem _ hn)
    simp only [tot, List.length_cons, Nat.add_mul]
    omega

theorem closed_rws2 {i j e e' sz : Nat} {a b : List (List Int)} : closedH [(i, .rows e e' sz (rws a) none), (j, .rows e e' sz (rws b) none)] := by
  intro p hp
  simp at hp
  have key : ∀ c : List (List Int), ∀ xs ∈ rws c, ∀ x ∈ xs, x.clo = true := fun c xs hx x hx2 => by
    simp only [rws, List.mem_map] at hx
    obtain ⟨ns, _, rfl⟩ := hx
    obtain ⟨a, _, rfl⟩ := List.mem_map.1 hx2
    rfl
  rcases hp with rfl | rfl
  · exact key a
  · exact key b

end Go.Proofs.Ytkomkhigcdkpdaa
