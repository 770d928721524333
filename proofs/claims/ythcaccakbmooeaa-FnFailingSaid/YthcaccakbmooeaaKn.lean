/- The reference's draw of a machine that is like another one. No condition. -/
import Derived.Test.YthcaccakbmooeaaKg
import Derived.Test.YthcaccakbmooeaaCd
import Derived.Test.YthcaccakbmooeaaFwY
namespace Go.Proofs.Ythcaccakbmooeaa
open Go
attribute [local irreducible] awp awpL awpQL awpQ awpM pWalk Qt AC thenQ blockQ loopQ OpTo
set_option linter.unusedVariables false
set_option linter.unusedSimpArgs false
set_option maxHeartbeats 2000000
attribute [local irreducible] HC

/-- The state and the output of one place. -/
def lkX (code : List Int) (S O s : Int) (r ro : List Int) (x : Nat) (u : Src) : Int × Int × Src :=
  if (x : Int) < s then
    (if pickV code 5 (pickS code O (pickS code S u)) = 0 then (pickV code S u, pickV code O (pickS code S u), pickS code 5 (pickS code O (pickS code S u)))
    else (min (r.getD x 0) (S - 1), ro.getD x 0, pickS code 5 (pickS code O (pickS code S u))))
  else (pickV code S u, pickV code O (pickS code S u), pickS code O (pickS code S u))
def lkR (code : List Int) (S O s : Int) (r ro : List Int) (u : Src) : Nat → List Int × List Int × Src
  | 0 => ([], [], u)
  | x + 1 => ((lkR code S O s r ro u x).1 ++ [(lkX code S O s r ro x (lkR code S O s r ro u x).2.2).1], (lkR code S O s r ro u x).2.1 ++ [(lkX code S O s r ro x (lkR code S O s r ro u x).2.2).2.1], (lkX code S O s r ro x (lkR code S O s r ro u x).2.2).2.2)
def lkT (code : List Int) (S O s : Int) (nx ou : List (List Int)) (u : Src) : Nat → List (List Int) × List (List Int) × Src
  | 0 => ([], [], u)
  | k + 1 => ((lkT code S O s nx ou u k).1 ++ [(lkR code S O s (nx.getD k []) (ou.getD k []) (lkT code S O s nx ou u k).2.2 S.toNat).1], (lkT code S O s nx ou u k).2.1 ++ [(lkR code S O s (nx.getD k []) (ou.getD k []) (lkT code S O s nx ou u k).2.2 S.toNat).2.1], (lkR code S O s (nx.getD k []) (ou.getD k []) (lkT code S O s nx ou u k).2.2 S.toNat).2.2)
def lkS (code : List Int) (most : Int) : Int := 1 + pickV code most ⟨0, 0⟩
def lkM (code : List Int) (most s o : Int) (nx ou : List (List Int)) : List (List Int) × List (List Int) × Src := lkT code (lkS code most) o s nx ou (pickS code most ⟨0, 0⟩) nx.length

section
variable {code : List Int} {S O s : Int} {r ro : List Int} {nx ou : List (List Int)} {u : Src}
theorem lkX_ok {x k : Nat} (h : SOk u k) : SOk (lkX code S O s r ro x u).2.2 (k + 6) := by
  have h1 := pick_ok (code := code) (n := O) (pick_ok (code := code) (n := S) h)
  unfold lkX
  split
  · split
    · exact pick_ok (n := 5) h1
    · exact pick_ok (n := 5) h1
  · exact h1.mono (by omega)
theorem lkX_el {x : Nat} (hb : BytesOk code) (hS : 1 ≤ S) (hO : 1 ≤ O) (h1 : (x : Int) < s → 0 ≤ r.getD x 0) (h2 : (x : Int) < s → 0 ≤ ro.getD x 0 ∧ ro.getD x 0 < O) :
    (0 ≤ (lkX code S O s r ro x u).1 ∧ (lkX code S O s r ro x u).1 < S) ∧ (0 ≤ (lkX code S O s r ro x u).2.1 ∧ (lkX code S O s r ro x u).2.1 < O) := by
  have p1 := pick_range (s := u) hb hS
  have p2 := pick_range (s := pickS code S u) hb hO
  unfold lkX
  split
  · rename_i hx
    have := h1 hx
    have := h2 hx
    split
    · exact ⟨p1, p2⟩
    · exact ⟨by show 0 ≤ min (r.getD x 0) (S - 1) ∧ min (r.getD x 0) (S - 1) < S; omega, by assumption⟩
  · exact ⟨p1, p2⟩
theorem lkR_len : ∀ x, (lkR code S O s r ro u x).1.length = x ∧ (lkR code S O s r ro u x).2.1.length = x
  | 0 => ⟨rfl, rfl⟩
  | x + 1 => by have := lkR_len x; simp [lkR, this.1, this.2]
theorem lkR_ok {k : Nat} (h : SOk u k) : ∀ x, SOk (lkR code S O s r ro u x).2.2 (k + 6 * x)
  | 0 => h
  | x + 1 => (lkX_ok (lkR_ok h x)).mono (by omega)
theorem lkR_el (hb : BytesOk code) (hS : 1 ≤ S) (hO : 1 ≤ O) (h1 : Rg s s r) (h2 : Rg s O ro) : ∀ x, (∀ v ∈ (lkR code S O s r ro u x).1, 0 ≤ v ∧ v < S) ∧ ∀ v ∈ (lkR code S O s r ro u x).2.1, 0 ≤ v ∧ v < O
  | 0 => ⟨(fun _ h => by cases h), (fun _ h => by cases h)⟩
  | x + 1 => by
    have ih := lkR_el hb hS hO h1 h2 x
    have e := lkX_el (u := (lkR code S O s r ro u x).2.2) (x := x) (s := s) (r := r) (ro := ro) hb hS hO (fun hx => by have := rg_at h1 (q := (x : Int)) ⟨by omega, hx⟩; simpa using this.1) (fun hx => by have := rg_at h2 (q := (x : Int)) ⟨by omega, hx⟩; simpa using this)
    refine ⟨fun v hv => ?_, fun v hv => ?_⟩
    · rcases List.mem_append.1 hv with hv | hv
      · exact ih.1 v hv
      · simp only [List.mem_singleton] at hv; subst hv; exact e.1
    · rcases List.mem_append.1 hv with hv | hv
      · exact ih.2 v hv
      · simp only [List.mem_singleton] at hv; subst hv; exact e.2
theorem lkT_len : ∀ k, (lkT code S O s nx ou u k).1.length = k ∧ (lkT code S O s nx ou u k).2.1.length = k
  | 0 => ⟨rfl, rfl⟩
  | k + 1 => by have := lkT_len k; simp [lkT, this.1, this.2]
theorem lkT_ok {n : Nat} (hS : S ≤ 10) (h : SOk u n) : ∀ k, SOk (lkT code S O s nx ou u k).2.2 (n + 60 * k)
  | 0 => h
  | k + 1 => (lkR_ok (lkT_ok hS h k) S.toNat).mono (by omega)
theorem lkT_el (m : MV s O nx ou) (hb : BytesOk code) (hS : 1 ≤ S) : ∀ k, k ≤ nx.length → Tbl S S (lkT code S O s nx ou u k).1 ∧ Tbl S O (lkT code S O s nx ou u k).2.1
  | 0, _ => ⟨(fun _ h => by cases h), (fun _ h => by cases h)⟩
  | k + 1, hk => by
    have ih := lkT_el m hb hS k (by omega)
    have g1 : Rg s s (nx.getD k []) := rg_tbl.1 m.nx k (by omega)
    have g2 : Rg s O (ou.getD k []) := rg_tbl.1 m.ou k (by have := m.eq; omega)
    have e := lkR_el (u := (lkT code S O s nx ou u k).2.2) hb hS m.o1.1 g1 g2 S.toNat
    have l := lkR_len (code := code) (S := S) (O := O) (s := s) (r := nx.getD k []) (ro := ou.getD k []) (u := (lkT code S O s nx ou u k).2.2) S.toNat
    refine ⟨fun v hv => ?_, fun v hv => ?_⟩
    · rcases List.mem_append.1 hv with hv | hv
      · exact ih.1 v hv
      · simp only [List.mem_singleton] at hv; subst hv; exact ⟨by rw [l.1]; omega, e.1⟩
    · rcases List.mem_append.1 hv with hv | hv
      · exact ih.2 v hv
      · simp only [List.mem_singleton] at hv; subst hv; exact ⟨by rw [l.2]; omega, e.2⟩
end
theorem lkS_range {code : List Int} {most : Int} (hb : BytesOk code) (hm : 1 ≤ most) : 1 ≤ lkS code most ∧ lkS code most ≤ most := by
  have := pick_range (s := ⟨0, 0⟩) hb hm
  unfold lkS; omega
theorem mv_lk {code : List Int} {most s o : Int} {nx ou : List (List Int)} (m : MV s o nx ou) (hb : BytesOk code) (hm : 1 ≤ most ∧ most ≤ 10) : MV (lkS code most) o (lkM code most s o nx ou).1 (lkM code most s o nx ou).2.1 ∧ (lkM code most s o nx ou).1.length = nx.length := by
  have hS := lkS_range hb hm.1
  have l := lkT_len (code := code) (S := lkS code most) (O := o) (s := s) (nx := nx) (ou := ou) (u := pickS code most ⟨0, 0⟩) nx.length
  have e := lkT_el (u := pickS code most ⟨0, 0⟩) m hb hS.1 nx.length (Nat.le_refl _)
  exact ⟨⟨by omega, m.o1, by show 1 ≤ (lkT _ _ _ _ _ _ _ _).1.length ∧ _; unfold lkM; rw [l.1]; exact m.n1, by unfold lkM; rw [l.1, l.2], e.1, e.2⟩, l.1⟩
theorem pmM_s {code : List Int} (hb : BytesOk code) : (pmM code).s ≤ 5 := by
  unfold pmM
  split
  · have := drS_range (s := pickS code 4 ⟨0, 0⟩) (most := 4) hb (by omega)
    dsimp only; omega
  · have := drS_range (s := pickS code 4 ⟨0, 0⟩) (most := 5) hb (by omega)
    dsimp only; omega

/-! ### The walk -/
theorem spec_l00Min {a b : Int} : AC Try.prog 67 [.int .i64 a, .int .i64 b] (.int .i64 (min a b)) := by
  by_cases h : a < b
  · refine ac_intro tabIs _ Try.func67 rfl rfl Try.ntmps67 rfl rfl fun w0 ok0 => ?_
    repeat (first | refine awp_seq ?_ | refine then_n ?_ | refine then_r ?_ | refine then_x ?_ | refine block_n ?_ | refine block_r ?_ | refine block_x ?_ | refine u_y ?_ | refine loop_r ?_ | refine loop_x ?_ | refine awp_region ?_ | refine awpL_nil ?_ | refine awpQL_nil ?_ | refine awp_block ?_ | refine awp_skip ?_ | refine awp_exit ?_ | refine awp_label ?_ | refine u_dT ?_ | refine u_d ?_ | refine u_l ?_ | refine u_o ?_ | refine u_q ?_ | refine u_lr ?_ | refine u_qr ?_ | refine u_ls ?_ | refine u_qs ?_ | refine u_t ?_ | refine u_f ?_ | refine v_s ?_ | refine v_o ?_ | refine v_on ?_ | refine v_og ?_ | refine v_q ?_ | refine v_sr ?_ | refine v_k ?_ | refine m_nil ?_)
    (refine awp_ret ?_; (repeat (first | refine then_r ?_ | refine block_r ?_ | refine loop_r ?_)); apply ret_ok (.inr rfl); (focus exact rfl))
    rw [Int.min_eq_left (by omega)]
  · refine ac_intro tabIs _ Try.func67 rfl rfl Try.ntmps67 rfl rfl fun w0 ok0 => ?_
    repeat (first | refine awp_seq ?_ | refine then_n ?_ | refine then_r ?_ | refine then_x ?_ | refine block_n ?_ | refine block_r ?_ | refine block_x ?_ | refine u_y ?_ | refine loop_r ?_ | refine loop_x ?_ | refine awp_region ?_ | refine awpL_nil ?_ | refine awpQL_nil ?_ | refine awp_block ?_ | refine awp_skip ?_ | refine awp_exit ?_ | refine awp_label ?_ | refine u_dT ?_ | refine u_d ?_ | refine u_l ?_ | refine u_o ?_ | refine u_q ?_ | refine u_lr ?_ | refine u_qr ?_ | refine u_ls ?_ | refine u_qs ?_ | refine u_t ?_ | refine u_f ?_ | refine v_s ?_ | refine v_o ?_ | refine v_on ?_ | refine v_og ?_ | refine v_q ?_ | refine v_sr ?_ | refine v_k ?_ | refine m_nil ?_)
    (refine awp_ret ?_; (repeat (first | refine then_r ?_ | refine block_r ?_ | refine loop_r ?_)); apply ret_ok (.inr rfl); (focus exact rfl))
    rw [Int.min_eq_right (by omega)]

theorem spec_P6LikeH {code : List Int} {s o most : Int} {nx ou : List (List Int)} (hb : BytesOk code) (m : MV s o nx ou) (hm : 1 ≤ most ∧ most ≤ 10) :
    HC Try.prog 27 [.d (u8s code), .d (mach s o nx ou), .d (.int .i64 most)] [] (.agg [.d (.int .i64 (lkS code most)), .d (.int .i64 o), .own 30000, .own 30001])
      [(30000, .rows 31 2 1 (rws (lkM code most s o nx ou).1) none), (30001, .rows 31 2 1 (rws (lkM code most s o nx ou).2.1) none)] := by
  have hs := m.s1
  have ho := m.o1
  have hn := m.n1
  have he := m.eq
  have hle : (List.map ints nx).length = nx.length := by simp
  have hle2 : (List.map ints ou).length = ou.length := by simp
  have c0 := spec_From (code := code)
  have hP : ∀ (u : Src) (k : Nat) (n : Int), SOk u k → k ≤ 999999990 → n ≤ 1000 → HC Try.prog 36 [.ref 10000 0, .d (.int .i64 n)] [(10000, srcB code u)] (.d (.int .i64 (pickV code n u))) [(10000, srcB code (pickS code n u))] := fun u k n a b c => spec_pick hb a b (by omega)
  have hQ : ∀ (u : Src) (k : Nat) (n : Int), SOk u k → k ≤ 999999990 → n ≤ 1000 → HC Try.prog 33 [.ref 10000 0, .d (.int .i64 n)] [(10000, srcB code u)] (.d (.bool (decide (pickV code n u = 0)))) [(10000, srcB code (pickS code n u))] := fun u k n a b c => spec_one hb a b (by omega)
  have k0 : SOk (⟨0, 0⟩ : Src) 0 := ⟨Nat.le_refl _, by simp⟩
  have c1 := hP _ _ most k0 (by omega) (by omega)
  have hS := lkS_range hb hm.1
  have hT := fun j => lkT_ok (code := code) (S := lkS code most) (O := o) (s := s) (nx := nx) (ou := ou) (by omega) (pick_ok (code := code) (n := most) k0) j
  have hTl := fun j => lkT_len (code := code) (S := lkS code most) (O := o) (s := s) (nx := nx) (ou := ou) (u := pickS code most ⟨0, 0⟩) j
  unfold lkM mach
  have hSe : 1 + pickV code most ⟨0, 0⟩ = lkS code most := rfl
  generalize pickS code most ⟨0, 0⟩ = s1 at *
  generalize lkS code most = S at *
  generalize pickV code most ⟨0, 0⟩ = v0 at *
  unfold srcB at c0 c1 hP hQ
  unfold u8s at *
  refine hc_intro tabIs _ Try.func27 rfl rfl Try.ntmps27 rfl rfl rfl ?_ fun w0 ok0 XM XA anc => ?_
  · exact likeIn_nil
  repeat (first | refine awp_seq ?_ | refine then_n ?_ | refine then_r ?_ | refine then_x ?_ | refine block_n ?_ | refine block_r ?_ | refine block_x ?_ | refine u_y ?_ | refine loop_r ?_ | refine loop_x ?_ | refine awp_region ?_ | refine awpL_nil ?_ | refine awpQL_nil ?_ | refine awp_block ?_ | refine awp_skip ?_ | refine awp_exit ?_ | refine awp_label ?_ | refine u_dT ?_ | refine u_d ?_ | refine u_l ?_ | refine u_o ?_ | refine u_q ?_ | refine u_lr ?_ | refine u_qr ?_ | refine u_ls ?_ | refine u_qs ?_ | refine u_t ?_ | refine u_f ?_ | refine v_s ?_ | refine v_o ?_ | refine v_on ?_ | refine v_og ?_ | refine v_q ?_ | refine v_sr ?_ | refine v_k ?_ | refine m_nil ?_)
  refine hcl [] [(30000, 500)] c0 ?_
  repeat (first | refine awp_seq ?_ | refine then_n ?_ | refine then_r ?_ | refine then_x ?_ | refine block_n ?_ | refine block_r ?_ | refine block_x ?_ | refine u_y ?_ | refine loop_r ?_ | refine loop_x ?_ | refine awp_region ?_ | refine awpL_nil ?_ | refine awpQL_nil ?_ | refine awp_block ?_ | refine awp_skip ?_ | refine awp_exit ?_ | refine awp_label ?_ | refine u_l ?_ | refine u_o ?_ | refine u_q ?_ | refine u_lr ?_ | refine u_qr ?_ | refine u_ls ?_ | refine u_qs ?_ | refine u_t ?_ | refine u_f ?_ | refine v_s ?_ | refine v_o ?_ | refine v_on ?_ | refine v_og ?_ | refine v_q ?_ | refine v_sr ?_ | refine v_k ?_ | refine m_nil ?_)
  refine u_mJ [(2, [500]), (7, [8]), (8, [8])] (.tk [8] [0, 1] (.tk [500, 8] [4, 5] (.fork 2 7 (.tk [8] [3, 6] (.tk [] [7, 8] .done)) (.tk [] [2] (.tk [8] [3, 6] (.tk [] [8] .done))))))
    [(4, .d (.ptr (.agg [.int .i64 s, .int .i64 o, rows nx, rows ou]))), (6, .ref 6 0), (7, .ref 500 0), (8, .ref 8 0)]
    [(6, .box [.d (.int .i64 0), .d (.int .i64 0), .d .nils, .d .nils]), (8, .box [.d (.int .i64 (1 + v0)), .d (.int .i64 o), .d .nils, .d .nils]), (500, srcB code s1)] ?_ ?_
  · repeat (first | refine awp_seq ?_ | refine then_n ?_ | refine then_r ?_ | refine then_x ?_ | refine block_n ?_ | refine block_r ?_ | refine block_x ?_ | refine u_y ?_ | refine loop_r ?_ | refine loop_x ?_ | refine awp_region ?_ | refine awpL_nil ?_ | refine awpQL_nil ?_ | refine awp_block ?_ | refine awp_skip ?_ | refine awp_exit ?_ | refine awp_label ?_ | refine u_dT ?_ | refine u_d ?_ | refine u_l ?_ | refine u_o ?_ | refine u_q ?_ | refine u_lr ?_ | refine u_qr ?_ | refine u_ls ?_ | refine u_qs ?_ | refine u_t ?_ | refine u_f ?_ | refine v_s ?_ | refine v_o ?_ | refine v_on ?_ | refine v_og ?_ | refine v_q ?_ | refine v_sr ?_ | refine v_k ?_ | refine m_nil ?_)
    refine m_fork ?_ ?_
    · refine hclM [(500, 10000)] [(10000, 500)] c1 ?_
      repeat (first | refine awp_seq ?_ | refine then_n ?_ | refine then_r ?_ | refine then_x ?_ | refine block_n ?_ | refine block_r ?_ | refine block_x ?_ | refine u_y ?_ | refine loop_r ?_ | refine loop_x ?_ | refine awp_region ?_ | refine awpL_nil ?_ | refine awpQL_nil ?_ | refine awp_block ?_ | refine awp_skip ?_ | refine awp_exit ?_ | refine awp_label ?_ | refine u_dT ?_ | refine u_d ?_ | refine u_l ?_ | refine u_o ?_ | refine u_q ?_ | refine u_lr ?_ | refine u_qr ?_ | refine u_ls ?_ | refine u_qs ?_ | refine u_t ?_ | refine u_f ?_ | refine v_s ?_ | refine v_o ?_ | refine v_on ?_ | refine v_og ?_ | refine v_q ?_ | refine v_sr ?_ | refine v_k ?_ | refine m_nil ?_)
      exact ⟨by ((repeat (first | exact trivial | (refine ⟨?_, ?_⟩; (focus (first | rfl | (simp [lk, argsS, args0]; done) | (simp [lk, argsS, args0]; omega))))))), perm_of_sort rfl⟩
    · repeat (first | refine awp_seq ?_ | refine then_n ?_ | refine then_r ?_ | refine then_x ?_ | refine block_n ?_ | refine block_r ?_ | refine block_x ?_ | refine u_y ?_ | refine loop_r ?_ | refine loop_x ?_ | refine awp_region ?_ | refine awpL_nil ?_ | refine awpQL_nil ?_ | refine awp_block ?_ | refine awp_skip ?_ | refine awp_exit ?_ | refine awp_label ?_ | refine u_dT ?_ | refine u_d ?_ | refine u_l ?_ | refine u_o ?_ | refine u_q ?_ | refine u_lr ?_ | refine u_qr ?_ | refine u_ls ?_ | refine u_qs ?_ | refine u_t ?_ | refine u_f ?_ | refine v_s ?_ | refine v_o ?_ | refine v_on ?_ | refine v_og ?_ | refine v_q ?_ | refine v_sr ?_ | refine v_k ?_ | refine m_nil ?_)
      refine hclM [(500, 10000)] [(10000, 500)] c1 ?_
      repeat (first | refine awp_seq ?_ | refine then_n ?_ | refine then_r ?_ | refine then_x ?_ | refine block_n ?_ | refine block_r ?_ | refine block_x ?_ | refine u_y ?_ | refine loop_r ?_ | refine loop_x ?_ | refine awp_region ?_ | refine awpL_nil ?_ | refine awpQL_nil ?_ | refine awp_block ?_ | refine awp_skip ?_ | refine awp_exit ?_ | refine awp_label ?_ | refine u_dT ?_ | refine u_d ?_ | refine u_l ?_ | refine u_o ?_ | refine u_q ?_ | refine u_lr ?_ | refine u_qr ?_ | refine u_ls ?_ | refine u_qs ?_ | refine u_t ?_ | refine u_f ?_ | refine v_s ?_ | refine v_o ?_ | refine v_on ?_ | refine v_og ?_ | refine v_q ?_ | refine v_sr ?_ | refine v_k ?_ | refine m_nil ?_)
      exact ⟨by ((repeat (first | exact trivial | (refine ⟨?_, ?_⟩; (focus (first | rfl | (simp [lk, argsS, args0]; done) | (simp [lk, argsS, args0]; omega))))))), perm_of_sort rfl⟩
  rw [hSe]
  repeat (first | refine awp_seq ?_ | refine then_n ?_ | refine then_r ?_ | refine then_x ?_ | refine block_n ?_ | refine block_r ?_ | refine block_x ?_ | refine u_y ?_ | refine loop_r ?_ | refine loop_x ?_ | refine awp_region ?_ | refine awpL_nil ?_ | refine awpQL_nil ?_ | refine awp_block ?_ | refine awp_skip ?_ | refine awp_exit ?_ | refine awp_label ?_ | refine u_dT ?_ | refine u_d ?_ | refine u_l ?_ | refine u_o ?_ | refine u_q ?_ | refine u_lr ?_ | refine u_qr ?_ | refine u_ls ?_ | refine u_qs ?_ | refine u_t ?_ | refine u_f ?_ | refine v_s ?_ | refine v_o ?_ | refine v_on ?_ | refine v_og ?_ | refine v_q ?_ | refine v_sr ?_ | refine v_k ?_ | refine m_nil ?_)
  refine awp_nilCell 8 2 200 31 1 (by exact rfl) (by exact rfl) rfl rfl rfl ?_
  refine awp_toRows 200 2 1 rfl rfl rfl rfl ?_
  refine awp_nilCell 8 3 201 31 1 (by exact rfl) (by exact rfl) rfl rfl rfl ?_
  refine awp_toRows 201 2 1 rfl rfl rfl rfl ?_
  refine awp_perm _ rfl ?_
  refine awp_loop (fun k : Nat => k ≤ nx.length) (fun k => [(4, .d (.ptr (.agg [.int .i64 s, .int .i64 o, rows nx, rows ou]))), (6, .ref 6 0), (7, .ref 500 0), (8, .ref 8 0), (9, .d (.int .i64 k))])
    (fun k => [(6, .box [.d (.int .i64 0), .d (.int .i64 0), .d .nils, .d .nils]), (8, .box [.d (.int .i64 S), .d (.int .i64 o), .own 200, .own 201]), (200, .rows 31 2 1 (rws (lkT code S o s nx ou s1 k).1) none), (201, .rows 31 2 1 (rws (lkT code S o s nx ou s1 k).2.1) none), (500, srcB code (lkT code S o s nx ou s1 k).2.2)])
    (fun k => nx.length - k) 0 (by omega) ?_ (by as_aux_lemma => kernel_rfl) ?_
  · ((repeat (first | exact trivial | (refine ⟨?_, ?_⟩; (focus (first | rfl | (simp [lk, argsS, args0]; done) | (simp [lk, argsS, args0]; omega)))))))
  · intro k hk
    have hok := hT k
    have hlk := hTl k
    have hrl1 := rws_length (lkT code S o s nx ou s1 k).1
    have hrl2 := rws_length (lkT code S o s nx ou s1 k).2.1
    by_cases hlt : k < nx.length
    · have g1 : Rg s s (nx.getD k []) := rg_tbl.1 m.nx k (by omega)
      have g2 : Rg s o (ou.getD k []) := rg_tbl.1 m.ou k (by omega)
      have hst : lkT code S o s nx ou s1 (k + 1) = ((lkT code S o s nx ou s1 k).1 ++ [(lkR code S o s (nx.getD k []) (ou.getD k []) (lkT code S o s nx ou s1 k).2.2 S.toNat).1], (lkT code S o s nx ou s1 k).2.1 ++ [(lkR code S o s (nx.getD k []) (ou.getD k []) (lkT code S o s nx ou s1 k).2.2 S.toNat).2.1], (lkR code S o s (nx.getD k []) (ou.getD k []) (lkT code S o s nx ou s1 k).2.2 S.toNat).2.2) := rfl
      have hx1 : (List.map ints nx)[(k : Int).toNat]? = some (ints (nx.getD k [])) := el_row2 (xs := nx) (l := (k : Int)) (by omega)
      have hx2 : (List.map ints ou)[(k : Int).toNat]? = some (ints (ou.getD k [])) := el_row2 (xs := ou) (l := (k : Int)) (by omega)
      generalize nx.getD k [] = r at *
      generalize ou.getD k [] = ro at *
      generalize lkT code S o s nx ou s1 k = p at *
      have hrn := fun x => lkR_len (code := code) (S := S) (O := o) (s := s) (r := r) (ro := ro) (u := p.2.2) x
      have hrk := fun x => lkR_ok (code := code) (S := S) (O := o) (s := s) (r := r) (ro := ro) hok x
      have gl1 := g1.1
      have gl2 := g2.1
      have hrl : (r.map (D.int .i64)).length = r.length := by simp
      have hrol : (ro.map (D.int .i64)).length = ro.length := by simp
      repeat (first | refine v_w (t := 32) ?_ | refine v_w (t := 31) ?_ | refine awp_seq ?_ | refine then_n ?_ | refine then_r ?_ | refine then_x ?_ | refine block_n ?_ | refine block_r ?_ | refine block_x ?_ | refine u_y ?_ | refine loop_r ?_ | refine loop_x ?_ | refine awp_region ?_ | refine awpL_nil ?_ | refine awpQL_nil ?_ | refine awp_block ?_ | refine awp_skip ?_ | refine awp_exit ?_ | refine awp_label ?_ | refine u_dT ?_ | refine u_d ?_ | refine u_w (t := 31) ?_ | refine u_w (t := 32) ?_ | refine u_l ?_ | refine u_o ?_ | refine u_q ?_ | refine u_lr ?_ | refine u_qr ?_ | refine u_ls ?_ | refine u_qs ?_ | refine u_t ?_ | refine u_f ?_ | refine v_s ?_ | refine v_o ?_ | refine v_on ?_ | refine v_og ?_ | refine v_q ?_ | refine v_sr ?_ | refine v_k ?_ | refine m_nil ?_)
      refine awp_perm _ rfl ?_
      refine awp_loop (fun x : Nat => (x : Int) ≤ S) (fun x => [(4, .d (.ptr (.agg [.int .i64 s, .int .i64 o, rows nx, rows ou]))), (6, .ref 6 0), (7, .ref 500 0), (8, .ref 8 0), (9, .d (.int .i64 k)), (10, .own 31), (11, .own 32), (12, .d (.int .i64 x))])
        (fun x => [(6, .box [.d (.int .i64 0), .d (.int .i64 0), .d .nils, .d .nils]), (8, .box [.d (.int .i64 S), .d (.int .i64 o), .own 200, .own 201]), (31, .arr 2 1 ((lkR code S o s r ro p.2.2 x).1.map (.int .i64))), (32, .arr 2 1 ((lkR code S o s r ro p.2.2 x).2.1.map (.int .i64))), (200, .rows 31 2 1 (rws p.1) none), (201, .rows 31 2 1 (rws p.2.1) none), (500, srcB code (lkR code S o s r ro p.2.2 x).2.2)])
        (fun x => S.toNat - x) 0 (by omega) ?_ (by as_aux_lemma => kernel_rfl) ?_
      · ((repeat (first | exact trivial | (refine ⟨?_, ?_⟩; (focus (first | rfl | (simp [lk, argsS, args0]; done) | (simp [lk, argsS, args0]; omega)))))))
      · intro x hx
        have hnx := hrn x
        have hkx := hrk x
        have hm1 : ((lkR code S o s r ro p.2.2 x).1.map (D.int .i64)).length = x := by simp [hnx.1]
        have hm2 : ((lkR code S o s r ro p.2.2 x).2.1.map (D.int .i64)).length = x := by simp [hnx.2]
        by_cases hxl : (x : Int) < S
        · have hsx : lkR code S o s r ro p.2.2 (x + 1) = ((lkR code S o s r ro p.2.2 x).1 ++ [(lkX code S o s r ro x (lkR code S o s r ro p.2.2 x).2.2).1], (lkR code S o s r ro p.2.2 x).2.1 ++ [(lkX code S o s r ro x (lkR code S o s r ro p.2.2 x).2.2).2.1], (lkX code S o s r ro x (lkR code S o s r ro p.2.2 x).2.2).2.2) := rfl
          have q1 := hP _ _ S hkx (by omega) (by omega)
          have q2 := hP _ _ o (pick_ok (code := code) (n := S) hkx) (by omega) (by omega)
          have q3 := hQ _ _ 5 (pick_ok (code := code) (n := o) (pick_ok (code := code) (n := S) hkx)) (by omega) (by omega)
          generalize lkR code S o s r ro p.2.2 x = t at *
          by_cases hxs : (x : Int) < s
          · have y1 : (r.map (D.int .i64))[(x : Int).toNat]? = some (.int .i64 (r.getD x 0)) := el_int2 (ns := r) (q := (x : Int)) (by omega)
            have y2 : (ro.map (D.int .i64))[(x : Int).toNat]? = some (.int .i64 (ro.getD x 0)) := el_int2 (ns := ro) (q := (x : Int)) (by omega)
            have z := spec_l00Min (a := r.getD x 0) (b := S - 1)
            by_cases h5 : pickV code 5 (pickS code o (pickS code S t.2.2)) = 0
            · have hX : lkX code S o s r ro x t.2.2 = (pickV code S t.2.2, pickV code o (pickS code S t.2.2), pickS code 5 (pickS code o (pickS code S t.2.2))) := by
                unfold lkX; rw [if_pos hxs, if_pos h5]
              rw [hX] at hsx
              rw [decide_eq_true h5] at q3
              repeat (first | refine awp_seq ?_ | refine then_n ?_ | refine then_r ?_ | refine then_x ?_ | refine block_n ?_ | refine block_r ?_ | refine block_x ?_ | refine u_y ?_ | refine loop_r ?_ | refine loop_x ?_ | refine awp_region ?_ | refine awpL_nil ?_ | refine awpQL_nil ?_ | refine awp_block ?_ | refine awp_skip ?_ | refine awp_exit ?_ | refine awp_label ?_ | refine u_dT ?_ | refine u_d ?_ | refine u_l ?_ | refine u_o ?_ | refine u_q ?_ | refine u_lr ?_ | refine u_qr ?_ | refine u_ls ?_ | refine u_qs ?_ | refine u_t ?_ | refine u_f ?_ | refine v_s ?_ | refine v_o ?_ | refine v_on ?_ | refine v_og ?_ | refine v_q ?_ | refine v_sr ?_ | refine v_k ?_ | refine m_nil ?_)
              refine hcl [(500, 10000)] [(10000, 500)] q1 ?_
              repeat (first | refine awp_seq ?_ | refine then_n ?_ | refine then_r ?_ | refine then_x ?_ | refine block_n ?_ | refine block_r ?_ | refine block_x ?_ | refine u_y ?_ | refine loop_r ?_ | refine loop_x ?_ | refine awp_region ?_ | refine awpL_nil ?_ | refine awpQL_nil ?_ | refine awp_block ?_ | refine awp_skip ?_ | refine awp_exit ?_ | refine awp_label ?_ | refine u_dT ?_ | refine u_d ?_ | refine u_l ?_ | refine u_o ?_ | refine u_q ?_ | refine u_lr ?_ | refine u_qr ?_ | refine u_ls ?_ | refine u_qs ?_ | refine u_t ?_ | refine u_f ?_ | refine v_s ?_ | refine v_o ?_ | refine v_on ?_ | refine v_og ?_ | refine v_q ?_ | refine v_sr ?_ | refine v_k ?_ | refine m_nil ?_)
              refine hcl [(500, 10000)] [(10000, 500)] q2 ?_
              repeat (first | refine awp_seq ?_ | refine then_n ?_ | refine then_r ?_ | refine then_x ?_ | refine block_n ?_ | refine block_r ?_ | refine block_x ?_ | refine u_y ?_ | refine loop_r ?_ | refine loop_x ?_ | refine awp_region ?_ | refine awpL_nil ?_ | refine awpQL_nil ?_ | refine awp_block ?_ | refine awp_skip ?_ | refine awp_exit ?_ | refine awp_label ?_ | refine u_dT ?_ | refine u_d ?_ | refine u_l ?_ | refine u_o ?_ | refine u_q ?_ | refine u_lr ?_ | refine u_qr ?_ | refine u_ls ?_ | refine u_qs ?_ | refine u_t ?_ | refine u_f ?_ | refine v_s ?_ | refine v_o ?_ | refine v_on ?_ | refine v_og ?_ | refine v_q ?_ | refine v_sr ?_ | refine v_k ?_ | refine m_nil ?_)
              rw [decide_eq_true hxs]
              repeat (first | refine awp_seq ?_ | refine then_n ?_ | refine then_r ?_ | refine then_x ?_ | refine block_n ?_ | refine block_r ?_ | refine block_x ?_ | refine u_y ?_ | refine loop_r ?_ | refine loop_x ?_ | refine awp_region ?_ | refine awpL_nil ?_ | refine awpQL_nil ?_ | refine awp_block ?_ | refine awp_skip ?_ | refine awp_exit ?_ | refine awp_label ?_ | refine u_dT ?_ | refine u_d ?_ | refine u_l ?_ | refine u_o ?_ | refine u_q ?_ | refine u_lr ?_ | refine u_qr ?_ | refine u_ls ?_ | refine u_qs ?_ | refine u_t ?_ | refine u_f ?_ | refine v_s ?_ | refine v_o ?_ | refine v_on ?_ | refine v_og ?_ | refine v_q ?_ | refine v_sr ?_ | refine v_k ?_ | refine m_nil ?_)
              refine awpL_ung ?_
              refine hcl [(500, 10000)] [(10000, 500)] q3 ?_
              repeat (first | refine awp_seq ?_ | refine then_n ?_ | refine then_r ?_ | refine then_x ?_ | refine block_n ?_ | refine block_r ?_ | refine block_x ?_ | refine u_y ?_ | refine loop_r ?_ | refine loop_x ?_ | refine awpL_nil ?_ | refine awpQL_nil ?_ | refine awp_block ?_ | refine awp_skip ?_ | refine awp_exit ?_ | refine awp_label ?_ | refine u_dT ?_ | refine u_d ?_ | refine u_l ?_ | refine u_o ?_ | refine u_q ?_ | refine u_lr ?_ | refine u_qr ?_ | refine u_ls ?_ | refine u_qs ?_ | refine u_t ?_ | refine u_f ?_ | refine v_s ?_ | refine v_o ?_ | refine v_on ?_ | refine v_og ?_ | refine v_q ?_ | refine v_sr ?_ | refine v_k ?_ | refine m_nil ?_)
              refine awp_region ?_
              repeat (first | refine awp_seq ?_ | refine then_n ?_ | refine then_r ?_ | refine then_x ?_ | refine block_n ?_ | refine block_r ?_ | refine block_x ?_ | refine u_y ?_ | refine loop_r ?_ | refine loop_x ?_ | refine awpL_nil ?_ | refine awpQL_nil ?_ | refine awp_block ?_ | refine awp_skip ?_ | refine awp_exit ?_ | refine awp_label ?_ | refine u_dT ?_ | refine u_d ?_ | refine u_l ?_ | refine u_o ?_ | refine u_q ?_ | refine u_lr ?_ | refine u_qr ?_ | refine u_ls ?_ | refine u_qs ?_ | refine u_t ?_ | refine u_f ?_ | refine v_s ?_ | refine v_o ?_ | refine v_on ?_ | refine v_og ?_ | refine v_q ?_ | refine v_sr ?_ | refine v_k ?_ | refine m_nil ?_)
              refine awp_region ?_
              repeat (first | refine awp_seq ?_ | refine then_n ?_ | refine then_r ?_ | refine then_x ?_ | refine block_n ?_ | refine block_r ?_ | refine block_x ?_ | refine u_y ?_ | refine loop_r ?_ | refine loop_x ?_ | refine awpL_nil ?_ | refine awpQL_nil ?_ | refine awp_block ?_ | refine awp_skip ?_ | refine awp_exit ?_ | refine awp_label ?_ | refine u_dT ?_ | refine u_d ?_ | refine u_l ?_ | refine u_o ?_ | refine u_q ?_ | refine u_lr ?_ | refine u_qr ?_ | refine u_ls ?_ | refine u_qs ?_ | refine u_t ?_ | refine u_f ?_ | refine v_s ?_ | refine v_o ?_ | refine v_on ?_ | refine v_og ?_ | refine v_q ?_ | refine v_sr ?_ | refine v_k ?_ | refine m_nil ?_)
              refine awp_perm _ rfl ?_
              repeat (first | refine awp_seq ?_ | refine then_n ?_ | refine then_r ?_ | refine then_x ?_ | refine block_n ?_ | refine block_r ?_ | refine block_x ?_ | refine u_y ?_ | refine loop_r ?_ | refine loop_x ?_ | refine awp_region ?_ | refine awpL_nil ?_ | refine awpQL_nil ?_ | refine awp_block ?_ | refine awp_skip ?_ | refine awp_exit ?_ | refine awp_label ?_ | refine u_dT ?_ | refine u_d ?_ | refine u_l ?_ | refine u_o ?_ | refine u_q ?_ | refine u_lr ?_ | refine u_qr ?_ | refine u_ls ?_ | refine u_qs ?_ | refine u_t ?_ | refine u_f ?_ | refine v_s ?_ | refine v_o ?_ | refine v_on ?_ | refine v_og ?_ | refine v_q ?_ | refine v_sr ?_ | refine v_k ?_ | refine m_nil ?_)
              refine loop_n (x + 1) (by omega) ?_ ?_ (by omega)
              · ((repeat (first | exact trivial | (refine ⟨?_, ?_⟩; (focus (first | rfl | (simp [lk, argsS, args0]; done) | (simp [lk, argsS, args0]; omega)))))))
              · rw [hsx]; simp only [List.map_append]; (as_aux_lemma => kernel_rfl)
            · have hX : lkX code S o s r ro x t.2.2 = (min (r.getD x 0) (S - 1), ro.getD x 0, pickS code 5 (pickS code o (pickS code S t.2.2))) := by
                unfold lkX; rw [if_pos hxs, if_neg h5]
              rw [hX] at hsx
              rw [decide_eq_false h5] at q3
              repeat (first | refine awp_seq ?_ | refine then_n ?_ | refine then_r ?_ | refine then_x ?_ | refine block_n ?_ | refine block_r ?_ | refine block_x ?_ | refine u_y ?_ | refine loop_r ?_ | refine loop_x ?_ | refine awp_region ?_ | refine awpL_nil ?_ | refine awpQL_nil ?_ | refine awp_block ?_ | refine awp_skip ?_ | refine awp_exit ?_ | refine awp_label ?_ | refine u_dT ?_ | refine u_d ?_ | refine u_l ?_ | refine u_o ?_ | refine u_q ?_ | refine u_lr ?_ | refine u_qr ?_ | refine u_ls ?_ | refine u_qs ?_ | refine u_t ?_ | refine u_f ?_ | refine v_s ?_ | refine v_o ?_ | refine v_on ?_ | refine v_og ?_ | refine v_q ?_ | refine v_sr ?_ | refine v_k ?_ | refine m_nil ?_)
              refine hcl [(500, 10000)] [(10000, 500)] q1 ?_
              repeat (first | refine awp_seq ?_ | refine then_n ?_ | refine then_r ?_ | refine then_x ?_ | refine block_n ?_ | refine block_r ?_ | refine block_x ?_ | refine u_y ?_ | refine loop_r ?_ | refine loop_x ?_ | refine awp_region ?_ | refine awpL_nil ?_ | refine awpQL_nil ?_ | refine awp_block ?_ | refine awp_skip ?_ | refine awp_exit ?_ | refine awp_label ?_ | refine u_dT ?_ | refine u_d ?_ | refine u_l ?_ | refine u_o ?_ | refine u_q ?_ | refine u_lr ?_ | refine u_qr ?_ | refine u_ls ?_ | refine u_qs ?_ | refine u_t ?_ | refine u_f ?_ | refine v_s ?_ | refine v_o ?_ | refine v_on ?_ | refine v_og ?_ | refine v_q ?_ | refine v_sr ?_ | refine v_k ?_ | refine m_nil ?_)
              refine hcl [(500, 10000)] [(10000, 500)] q2 ?_
              repeat (first | refine awp_seq ?_ | refine then_n ?_ | refine then_r ?_ | refine then_x ?_ | refine block_n ?_ | refine block_r ?_ | refine block_x ?_ | refine u_y ?_ | refine loop_r ?_ | refine loop_x ?_ | refine awp_region ?_ | refine awpL_nil ?_ | refine awpQL_nil ?_ | refine awp_block ?_ | refine awp_skip ?_ | refine awp_exit ?_ | refine awp_label ?_ | refine u_dT ?_ | refine u_d ?_ | refine u_l ?_ | refine u_o ?_ | refine u_q ?_ | refine u_lr ?_ | refine u_qr ?_ | refine u_ls ?_ | refine u_qs ?_ | refine u_t ?_ | refine u_f ?_ | refine v_s ?_ | refine v_o ?_ | refine v_on ?_ | refine v_og ?_ | refine v_q ?_ | refine v_sr ?_ | refine v_k ?_ | refine m_nil ?_)
              rw [decide_eq_true hxs]
              repeat (first | refine awp_seq ?_ | refine then_n ?_ | refine then_r ?_ | refine then_x ?_ | refine block_n ?_ | refine block_r ?_ | refine block_x ?_ | refine u_y ?_ | refine loop_r ?_ | refine loop_x ?_ | refine awp_region ?_ | refine awpL_nil ?_ | refine awpQL_nil ?_ | refine awp_block ?_ | refine awp_skip ?_ | refine awp_exit ?_ | refine awp_label ?_ | refine u_dT ?_ | refine u_d ?_ | refine u_l ?_ | refine u_o ?_ | refine u_q ?_ | refine u_lr ?_ | refine u_qr ?_ | refine u_ls ?_ | refine u_qs ?_ | refine u_t ?_ | refine u_f ?_ | refine v_s ?_ | refine v_o ?_ | refine v_on ?_ | refine v_og ?_ | refine v_q ?_ | refine v_sr ?_ | refine v_k ?_ | refine m_nil ?_)
              refine awpL_ung ?_
              refine hcl [(500, 10000)] [(10000, 500)] q3 ?_
              repeat (first | refine awp_seq ?_ | refine then_n ?_ | refine then_r ?_ | refine then_x ?_ | refine block_n ?_ | refine block_r ?_ | refine block_x ?_ | refine u_y ?_ | refine loop_r ?_ | refine loop_x ?_ | refine awpL_nil ?_ | refine awpQL_nil ?_ | refine awp_block ?_ | refine awp_skip ?_ | refine awp_exit ?_ | refine awp_label ?_ | refine u_dT ?_ | refine u_d ?_ | ((first | apply c_l | apply c_q | apply c_lr | apply c_qr); (iterate 2 exact rfl); (focus (first | exact z)); (iterate 2 exact rfl)) | (apply v_c; (iterate 4 exact rfl); (focus (first | exact z)); (iterate 2 exact rfl)) | refine u_l ?_ | refine u_o ?_ | refine u_q ?_ | refine u_lr ?_ | refine u_qr ?_ | refine u_ls ?_ | refine u_qs ?_ | refine u_t ?_ | refine u_f ?_ | refine v_s ?_ | refine v_o ?_ | refine v_on ?_ | refine v_og ?_ | refine v_q ?_ | refine v_sr ?_ | refine v_k ?_ | refine m_nil ?_)
              refine awp_region ?_
              repeat (first | refine awp_seq ?_ | refine then_n ?_ | refine then_r ?_ | refine then_x ?_ | refine block_n ?_ | refine block_r ?_ | refine block_x ?_ | refine u_y ?_ | refine loop_r ?_ | refine loop_x ?_ | refine awpL_nil ?_ | refine awpQL_nil ?_ | refine awp_block ?_ | refine awp_skip ?_ | refine awp_exit ?_ | refine awp_label ?_ | refine u_dT ?_ | refine u_d ?_ | refine u_l ?_ | refine u_o ?_ | refine u_q ?_ | refine u_lr ?_ | refine u_qr ?_ | refine u_ls ?_ | refine u_qs ?_ | refine u_t ?_ | refine u_f ?_ | refine v_s ?_ | refine v_o ?_ | refine v_on ?_ | refine v_og ?_ | refine v_q ?_ | refine v_sr ?_ | refine v_k ?_ | refine m_nil ?_)
              refine awp_region ?_
              repeat (first | refine awp_seq ?_ | refine then_n ?_ | refine then_r ?_ | refine then_x ?_ | refine block_n ?_ | refine block_r ?_ | refine block_x ?_ | refine u_y ?_ | refine loop_r ?_ | refine loop_x ?_ | refine awpL_nil ?_ | refine awpQL_nil ?_ | refine awp_block ?_ | refine awp_skip ?_ | refine awp_exit ?_ | refine awp_label ?_ | refine u_dT ?_ | refine u_d ?_ | refine u_l ?_ | refine u_o ?_ | refine u_q ?_ | refine u_lr ?_ | refine u_qr ?_ | refine u_ls ?_ | refine u_qs ?_ | refine u_t ?_ | refine u_f ?_ | refine v_s ?_ | refine v_o ?_ | refine v_on ?_ | refine v_og ?_ | refine v_q ?_ | refine v_sr ?_ | refine v_k ?_ | refine m_nil ?_)
              refine awp_region ?_
              repeat (first | refine awp_seq ?_ | refine then_n ?_ | refine then_r ?_ | refine then_x ?_ | refine block_n ?_ | refine block_r ?_ | refine block_x ?_ | refine u_y ?_ | refine loop_r ?_ | refine loop_x ?_ | refine awpL_nil ?_ | refine awpQL_nil ?_ | refine awp_block ?_ | refine awp_skip ?_ | refine awp_exit ?_ | refine awp_label ?_ | refine u_dT ?_ | refine u_d ?_ | refine u_l ?_ | refine u_o ?_ | refine u_q ?_ | refine u_lr ?_ | refine u_qr ?_ | refine u_ls ?_ | refine u_qs ?_ | refine u_t ?_ | refine u_f ?_ | refine v_s ?_ | refine v_o ?_ | refine v_on ?_ | refine v_og ?_ | refine v_q ?_ | refine v_sr ?_ | refine v_k ?_ | refine m_nil ?_)
              refine awp_perm _ rfl ?_
              repeat (first | refine awp_seq ?_ | refine then_n ?_ | refine then_r ?_ | refine then_x ?_ | refine block_n ?_ | refine block_r ?_ | refine block_x ?_ | refine u_y ?_ | refine loop_r ?_ | refine loop_x ?_ | refine awp_region ?_ | refine awpL_nil ?_ | refine awpQL_nil ?_ | refine awp_block ?_ | refine awp_skip ?_ | refine awp_exit ?_ | refine awp_label ?_ | refine u_dT ?_ | refine u_d ?_ | refine u_l ?_ | refine u_o ?_ | refine u_q ?_ | refine u_lr ?_ | refine u_qr ?_ | refine u_ls ?_ | refine u_qs ?_ | refine u_t ?_ | refine u_f ?_ | refine v_s ?_ | refine v_o ?_ | refine v_on ?_ | refine v_og ?_ | refine v_q ?_ | refine v_sr ?_ | refine v_k ?_ | refine m_nil ?_)
              refine loop_n (x + 1) (by omega) ?_ ?_ (by omega)
              · ((repeat (first | exact trivial | (refine ⟨?_, ?_⟩; (focus (first | rfl | (simp [lk, argsS, args0]; done) | (simp [lk, argsS, args0]; omega)))))))
              · rw [hsx]; simp only [List.map_append]; (as_aux_lemma => kernel_rfl)
          · have hX : lkX code S o s r ro x t.2.2 = (pickV code S t.2.2, pickV code o (pickS code S t.2.2), pickS code o (pickS code S t.2.2)) := by
              unfold lkX; rw [if_neg hxs]
            rw [hX] at hsx
            repeat (first | refine awp_seq ?_ | refine then_n ?_ | refine then_r ?_ | refine then_x ?_ | refine block_n ?_ | refine block_r ?_ | refine block_x ?_ | refine u_y ?_ | refine loop_r ?_ | refine loop_x ?_ | refine awp_region ?_ | refine awpL_nil ?_ | refine awpQL_nil ?_ | refine awp_block ?_ | refine awp_skip ?_ | refine awp_exit ?_ | refine awp_label ?_ | refine u_dT ?_ | refine u_d ?_ | refine u_l ?_ | refine u_o ?_ | refine u_q ?_ | refine u_lr ?_ | refine u_qr ?_ | refine u_ls ?_ | refine u_qs ?_ | refine u_t ?_ | refine u_f ?_ | refine v_s ?_ | refine v_o ?_ | refine v_on ?_ | refine v_og ?_ | refine v_q ?_ | refine v_sr ?_ | refine v_k ?_ | refine m_nil ?_)
            refine hcl [(500, 10000)] [(10000, 500)] q1 ?_
            repeat (first | refine awp_seq ?_ | refine then_n ?_ | refine then_r ?_ | refine then_x ?_ | refine block_n ?_ | refine block_r ?_ | refine block_x ?_ | refine u_y ?_ | refine loop_r ?_ | refine loop_x ?_ | refine awp_region ?_ | refine awpL_nil ?_ | refine awpQL_nil ?_ | refine awp_block ?_ | refine awp_skip ?_ | refine awp_exit ?_ | refine awp_label ?_ | refine u_dT ?_ | refine u_d ?_ | refine u_l ?_ | refine u_o ?_ | refine u_q ?_ | refine u_lr ?_ | refine u_qr ?_ | refine u_ls ?_ | refine u_qs ?_ | refine u_t ?_ | refine u_f ?_ | refine v_s ?_ | refine v_o ?_ | refine v_on ?_ | refine v_og ?_ | refine v_q ?_ | refine v_sr ?_ | refine v_k ?_ | refine m_nil ?_)
            refine hcl [(500, 10000)] [(10000, 500)] q2 ?_
            repeat (first | refine awp_seq ?_ | refine then_n ?_ | refine then_r ?_ | refine then_x ?_ | refine block_n ?_ | refine block_r ?_ | refine block_x ?_ | refine u_y ?_ | refine loop_r ?_ | refine loop_x ?_ | refine awp_region ?_ | refine awpL_nil ?_ | refine awpQL_nil ?_ | refine awp_block ?_ | refine awp_skip ?_ | refine awp_exit ?_ | refine awp_label ?_ | refine u_dT ?_ | refine u_d ?_ | refine u_l ?_ | refine u_o ?_ | refine u_q ?_ | refine u_lr ?_ | refine u_qr ?_ | refine u_ls ?_ | refine u_qs ?_ | refine u_t ?_ | refine u_f ?_ | refine v_s ?_ | refine v_o ?_ | refine v_on ?_ | refine v_og ?_ | refine v_q ?_ | refine v_sr ?_ | refine v_k ?_ | refine m_nil ?_)
            rw [decide_eq_false hxs]
            repeat (first | refine awp_seq ?_ | refine then_n ?_ | refine then_r ?_ | refine then_x ?_ | refine block_n ?_ | refine block_r ?_ | refine block_x ?_ | refine u_y ?_ | refine loop_r ?_ | refine loop_x ?_ | refine awpL_nil ?_ | refine awpQL_nil ?_ | refine awp_block ?_ | refine awp_skip ?_ | refine awp_exit ?_ | refine awp_label ?_ | refine u_dT ?_ | refine u_d ?_ | refine u_l ?_ | refine u_o ?_ | refine u_q ?_ | refine u_lr ?_ | refine u_qr ?_ | refine u_ls ?_ | refine u_qs ?_ | refine u_t ?_ | refine u_f ?_ | refine v_s ?_ | refine v_o ?_ | refine v_on ?_ | refine v_og ?_ | refine v_q ?_ | refine v_sr ?_ | refine v_k ?_ | refine m_nil ?_)
            refine awp_region ?_
            repeat (first | refine awp_seq ?_ | refine then_n ?_ | refine then_r ?_ | refine then_x ?_ | refine block_n ?_ | refine block_r ?_ | refine block_x ?_ | refine u_y ?_ | refine loop_r ?_ | refine loop_x ?_ | refine awpL_nil ?_ | refine awpQL_nil ?_ | refine awp_block ?_ | refine awp_skip ?_ | refine awp_exit ?_ | refine awp_label ?_ | refine u_dT ?_ | refine u_d ?_ | refine u_l ?_ | refine u_o ?_ | refine u_q ?_ | refine u_lr ?_ | refine u_qr ?_ | refine u_ls ?_ | refine u_qs ?_ | refine u_t ?_ | refine u_f ?_ | refine v_s ?_ | refine v_o ?_ | refine v_on ?_ | refine v_og ?_ | refine v_q ?_ | refine v_sr ?_ | refine v_k ?_ | refine m_nil ?_)
            refine awp_region ?_
            repeat (first | refine awp_seq ?_ | refine then_n ?_ | refine then_r ?_ | refine then_x ?_ | refine block_n ?_ | refine block_r ?_ | refine block_x ?_ | refine u_y ?_ | refine loop_r ?_ | refine loop_x ?_ | refine awpL_nil ?_ | refine awpQL_nil ?_ | refine awp_block ?_ | refine awp_skip ?_ | refine awp_exit ?_ | refine awp_label ?_ | refine u_dT ?_ | refine u_d ?_ | refine u_l ?_ | refine u_o ?_ | refine u_q ?_ | refine u_lr ?_ | refine u_qr ?_ | refine u_ls ?_ | refine u_qs ?_ | refine u_t ?_ | refine u_f ?_ | refine v_s ?_ | refine v_o ?_ | refine v_on ?_ | refine v_og ?_ | refine v_q ?_ | refine v_sr ?_ | refine v_k ?_ | refine m_nil ?_)
            refine awp_perm _ rfl ?_
            repeat (first | refine awp_seq ?_ | refine then_n ?_ | refine then_r ?_ | refine then_x ?_ | refine block_n ?_ | refine block_r ?_ | refine block_x ?_ | refine u_y ?_ | refine loop_r ?_ | refine loop_x ?_ | refine awp_region ?_ | refine awpL_nil ?_ | refine awpQL_nil ?_ | refine awp_block ?_ | refine awp_skip ?_ | refine awp_exit ?_ | refine awp_label ?_ | refine u_dT ?_ | refine u_d ?_ | refine u_l ?_ | refine u_o ?_ | refine u_q ?_ | refine u_lr ?_ | refine u_qr ?_ | refine u_ls ?_ | refine u_qs ?_ | refine u_t ?_ | refine u_f ?_ | refine v_s ?_ | refine v_o ?_ | refine v_on ?_ | refine v_og ?_ | refine v_q ?_ | refine v_sr ?_ | refine v_k ?_ | refine m_nil ?_)
            refine loop_n (x + 1) (by omega) ?_ ?_ (by omega)
            · ((repeat (first | exact trivial | (refine ⟨?_, ?_⟩; (focus (first | rfl | (simp [lk, argsS, args0]; done) | (simp [lk, argsS, args0]; omega)))))))
            · rw [hsx]; simp only [List.map_append]; (as_aux_lemma => kernel_rfl)
        · have hxS : x = S.toNat := by omega
          subst hxS
          have ra : rws (p.1 ++ [(lkR code S o s r ro p.2.2 S.toNat).1]) = rws p.1 ++ [(lkR code S o s r ro p.2.2 S.toNat).1.map (.int .i64)] := by simp [rws]
          have rb : rws (p.2.1 ++ [(lkR code S o s r ro p.2.2 S.toNat).2.1]) = rws p.2.1 ++ [(lkR code S o s r ro p.2.2 S.toNat).2.1.map (.int .i64)] := by simp [rws]
          repeat (first | refine awp_seq ?_ | refine then_n ?_ | refine then_r ?_ | refine then_x ?_ | refine block_n ?_ | refine block_r ?_ | refine block_x ?_ | refine u_y ?_ | refine loop_r ?_ | refine loop_x ?_ | refine awpL_nil ?_ | refine awpQL_nil ?_ | refine awp_block ?_ | refine awp_skip ?_ | refine awp_exit ?_ | refine awp_label ?_ | refine u_dT ?_ | refine u_d ?_ | refine u_l ?_ | refine u_o ?_ | refine u_q ?_ | refine u_lr ?_ | refine u_qr ?_ | refine u_ls ?_ | refine u_qs ?_ | refine u_t ?_ | refine u_f ?_ | refine v_s ?_ | refine v_o ?_ | refine v_on ?_ | refine v_og ?_ | refine v_q ?_ | refine v_sr ?_ | refine v_k ?_ | refine m_nil ?_)
          refine awp_region ?_
          repeat (first | refine awp_seq ?_ | refine then_n ?_ | refine then_r ?_ | refine then_x ?_ | refine block_n ?_ | refine block_r ?_ | refine block_x ?_ | refine u_y ?_ | refine loop_r ?_ | refine loop_x ?_ | refine awpL_nil ?_ | refine awpQL_nil ?_ | refine awp_block ?_ | refine awp_skip ?_ | refine awp_exit ?_ | refine awp_label ?_ | refine u_dT ?_ | refine u_d ?_ | refine u_l ?_ | refine u_o ?_ | refine u_q ?_ | refine u_lr ?_ | refine u_qr ?_ | refine u_ls ?_ | refine u_qs ?_ | refine u_t ?_ | refine u_f ?_ | refine v_s ?_ | refine v_o ?_ | refine v_on ?_ | refine v_og ?_ | refine v_q ?_ | refine v_sr ?_ | refine v_k ?_ | refine m_nil ?_)
          refine awp_region ?_
          repeat (first | refine awp_seq ?_ | refine then_n ?_ | refine then_r ?_ | refine then_x ?_ | refine block_n ?_ | refine block_r ?_ | refine block_x ?_ | refine u_y ?_ | refine loop_r ?_ | refine loop_x ?_ | refine awpL_nil ?_ | refine awpQL_nil ?_ | refine awp_block ?_ | refine awp_skip ?_ | refine awp_exit ?_ | refine awp_label ?_ | refine u_dT ?_ | refine u_d ?_ | refine u_l ?_ | refine u_o ?_ | refine u_q ?_ | refine u_lr ?_ | refine u_qr ?_ | refine u_ls ?_ | refine u_qs ?_ | refine u_t ?_ | refine u_f ?_ | refine v_s ?_ | refine v_o ?_ | refine v_on ?_ | refine v_og ?_ | refine v_q ?_ | refine v_sr ?_ | refine v_k ?_ | refine m_nil ?_)
          refine awp_region ?_
          repeat (first | refine awp_seq ?_ | refine then_n ?_ | refine then_r ?_ | refine then_x ?_ | refine block_n ?_ | refine block_r ?_ | refine block_x ?_ | refine u_y ?_ | refine loop_r ?_ | refine loop_x ?_ | refine awpL_nil ?_ | refine awpQL_nil ?_ | refine awp_block ?_ | refine awp_skip ?_ | refine awp_exit ?_ | refine awp_label ?_ | refine u_dT ?_ | refine u_d ?_ | refine u_l ?_ | refine u_o ?_ | refine u_q ?_ | refine u_lr ?_ | refine u_qr ?_ | refine u_ls ?_ | refine u_qs ?_ | refine u_t ?_ | refine u_f ?_ | refine v_s ?_ | refine v_o ?_ | refine v_on ?_ | refine v_og ?_ | refine v_q ?_ | refine v_sr ?_ | refine v_k ?_ | refine m_nil ?_)
          refine awp_perm _ rfl ?_
          repeat (first | refine awp_seq ?_ | refine then_n ?_ | refine then_r ?_ | refine then_x ?_ | refine block_n ?_ | refine block_r ?_ | refine block_x ?_ | refine u_y ?_ | refine loop_r ?_ | refine loop_x ?_ | refine awp_region ?_ | refine awpL_nil ?_ | refine awpQL_nil ?_ | refine awp_block ?_ | refine awp_skip ?_ | refine awp_exit ?_ | refine awp_label ?_ | refine u_dT ?_ | refine u_d ?_ | refine u_l ?_ | refine u_o ?_ | refine u_q ?_ | refine u_lr ?_ | refine u_qr ?_ | refine u_ls ?_ | refine u_qs ?_ | refine u_t ?_ | refine u_f ?_ | refine v_s ?_ | refine v_o ?_ | refine v_on ?_ | refine v_og ?_ | refine v_q ?_ | refine v_sr ?_ | refine v_k ?_ | refine m_nil ?_)
          refine loop_n (k + 1) (by omega) ?_ ?_ (by omega)
          · ((repeat (first | exact trivial | (refine ⟨?_, ?_⟩; (focus (first | rfl | (simp [lk, argsS, args0]; done) | (simp [lk, argsS, args0]; omega)))))))
          · rw [hst]; simp only []; rw [ra, rb]; (as_aux_lemma => kernel_rfl)
    · have hkn : k = nx.length := by omega
      subst hkn
      repeat (first | refine awp_seq ?_ | refine then_n ?_ | refine then_r ?_ | refine then_x ?_ | refine block_n ?_ | refine block_r ?_ | refine block_x ?_ | refine u_y ?_ | refine loop_r ?_ | refine loop_x ?_ | refine awp_region ?_ | refine awpL_nil ?_ | refine awpQL_nil ?_ | refine awp_block ?_ | refine awp_skip ?_ | refine awp_exit ?_ | refine awp_label ?_ | refine u_dT ?_ | refine u_d ?_ | refine u_l ?_ | refine u_o ?_ | refine u_q ?_ | refine u_lr ?_ | refine u_qr ?_ | refine u_ls ?_ | refine u_qs ?_ | refine u_t ?_ | refine u_f ?_ | refine v_s ?_ | refine v_o ?_ | refine v_on ?_ | refine v_og ?_ | refine v_q ?_ | refine v_sr ?_ | refine v_k ?_ | refine m_nil ?_)
      (refine awp_ret ?_; (repeat (first | refine then_r ?_ | refine block_r ?_ | refine loop_r ?_)); refine u_rH [(200, 30000), (201, 30001)] ?_ ?_)
      · rfl
      · rfl
theorem spec_P6Like {code : List Int} {s o most : Int} {nx ou : List (List Int)} (hb : BytesOk code) (m : MV s o nx ou) (hm : 1 ≤ most ∧ most ≤ 10) :
    AC Try.prog 27 [u8s code, mach s o nx ou, .int .i64 most] (mach (lkS code most) o (lkM code most s o nx ou).1 (lkM code most s o nx ou).2.1) := by
  have := ac_of_hc (xs := [u8s code, mach s o nx ou, .int .i64 most]) (d := .agg [.int .i64 (lkS code most), .int .i64 o, .lst ((rws (lkM code most s o nx ou).1).map D.lst), .lst ((rws (lkM code most s o nx ou).2.1).map D.lst)]) (spec_P6LikeH hb m hm) rfl
  rw [rws_dat, rws_dat] at this
  exact this
end Go.Proofs.Ythcaccakbmooeaa

/-! The law of Failing. No condition. -/
namespace Go.Proofs.Ythcaccakbmooeaa
open Go
attribute [local irreducible] awp awpL awpQL awpQ awpM pWalk Qt AC thenQ blockQ loopQ OpTo
set_option linter.unusedVariables false
set_option linter.unusedSimpArgs false
set_option maxHeartbeats 2000000
attribute [local irreducible] HC

section
variable {s o s' o' : Int} {nx ou nx' ou' : List (List Int)}
theorem impl_MachineDifferenceV (m : MV s o nx ou) (m' : MV s' o nx' ou') (he : nx'.length = nx.length) :
    AC Try.prog 30 [mach s o nx ou, mach s' o nx' ou'] (.tup [if (apR nx ou nx' ou').2 then ints (apR nx ou nx' ou').1 else .nils, .int .i64 (if (apR nx ou nx' ou').2 then 0 else 6)]) := by
  have e1 := impl_ValidMachine (s := s) (o := o) m.rnx m.rou
  have e2 := impl_ValidMachine (s := s') (o := o) m'.rnx m'.rou
  rw [machOk_mv m] at e1
  rw [machOk_mv m'] at e2
  have e3 := impl_alike (s := s) (o := o) (s' := s') (o' := o) (nx := nx) (ou := ou) (nx' := nx') (ou' := ou')
  rw [show (decide (o = o) && decide ((nx.length : Int) = nx'.length)) = true by simp [he]] at e3
  have e4 := impl_apartR m m' he
  cases hR : (apR nx ou nx' ou').2
  · rw [hR] at e4
    refine ac_intro tabIs _ Try.func30 rfl rfl Try.ntmps30 rfl rfl fun w0 ok0 => ?_
    repeat (first | refine awp_seq ?_ | refine then_n ?_ | refine then_r ?_ | refine then_x ?_ | refine block_n ?_ | refine block_r ?_ | refine block_x ?_ | refine u_y ?_ | refine loop_r ?_ | refine loop_x ?_ | refine awp_region ?_ | refine awpL_nil ?_ | refine awpQL_nil ?_ | refine awp_block ?_ | refine awp_skip ?_ | refine awp_exit ?_ | refine awp_label ?_ | refine u_dT ?_ | refine u_d ?_ | ((first | apply c_l | apply c_q | apply c_lr | apply c_qr); (iterate 2 exact rfl); (focus (first | exact e1 | exact e2 | exact e3 | exact e4)); (iterate 2 exact rfl)) | (apply v_c; (iterate 4 exact rfl); (focus (first | exact e1 | exact e2 | exact e3 | exact e4)); (iterate 2 exact rfl)) | refine u_l ?_ | refine u_o ?_ | refine u_q ?_ | refine u_lr ?_ | refine u_qr ?_ | refine u_ls ?_ | refine u_qs ?_ | refine u_t ?_ | refine u_f ?_ | refine v_s ?_ | refine v_o ?_ | refine v_on ?_ | refine v_og ?_ | refine v_q ?_ | refine v_sr ?_ | refine v_k ?_ | refine m_nil ?_)
    (refine awp_ret ?_; (repeat (first | refine then_r ?_ | refine block_r ?_ | refine loop_r ?_)); apply ret_ok (.inr rfl); (focus exact rfl))
    rfl
  · rw [hR] at e4
    refine ac_intro tabIs _ Try.func30 rfl rfl Try.ntmps30 rfl rfl fun w0 ok0 => ?_
    repeat (first | refine awp_seq ?_ | refine then_n ?_ | refine then_r ?_ | refine then_x ?_ | refine block_n ?_ | refine block_r ?_ | refine block_x ?_ | refine u_y ?_ | refine loop_r ?_ | refine loop_x ?_ | refine awp_region ?_ | refine awpL_nil ?_ | refine awpQL_nil ?_ | refine awp_block ?_ | refine awp_skip ?_ | refine awp_exit ?_ | refine awp_label ?_ | refine u_dT ?_ | refine u_d ?_ | ((first | apply c_l | apply c_q | apply c_lr | apply c_qr); (iterate 2 exact rfl); (focus (first | exact e1 | exact e2 | exact e3 | exact e4)); (iterate 2 exact rfl)) | (apply v_c; (iterate 4 exact rfl); (focus (first | exact e1 | exact e2 | exact e3 | exact e4)); (iterate 2 exact rfl)) | refine u_l ?_ | refine u_o ?_ | refine u_q ?_ | refine u_lr ?_ | refine u_qr ?_ | refine u_ls ?_ | refine u_qs ?_ | refine u_t ?_ | refine u_f ?_ | refine v_s ?_ | refine v_o ?_ | refine v_on ?_ | refine v_og ?_ | refine v_q ?_ | refine v_sr ?_ | refine v_k ?_ | refine m_nil ?_)
    (refine awp_ret ?_; (repeat (first | refine then_r ?_ | refine block_r ?_ | refine loop_r ?_)); apply ret_ok (.inr rfl); (focus exact rfl))
    rfl

theorem impl_isState {q : Int} (hs : 1 ≤ s ∧ s ≤ 1000) : AC Try.prog 74 [mach s o nx ou, .int .i64 q] (.bool (inB q 0 (s - 1))) := by
  have e1 := impl_within (n := q) (lo := 0) (hi := s - 1)
  unfold mach
  refine ac_intro tabIs _ Try.func74 rfl rfl Try.ntmps74 rfl rfl fun w0 ok0 => ?_
  repeat (first | refine awp_seq ?_ | refine then_n ?_ | refine then_r ?_ | refine then_x ?_ | refine block_n ?_ | refine block_r ?_ | refine block_x ?_ | refine u_y ?_ | refine loop_r ?_ | refine loop_x ?_ | refine awp_region ?_ | refine awpL_nil ?_ | refine awpQL_nil ?_ | refine awp_block ?_ | refine awp_skip ?_ | refine awp_exit ?_ | refine awp_label ?_ | refine u_dT ?_ | refine u_d ?_ | ((first | apply c_l | apply c_q | apply c_lr | apply c_qr); (iterate 2 exact rfl); (focus (first | exact e1)); (iterate 2 exact rfl)) | (apply v_c; (iterate 4 exact rfl); (focus (first | exact e1)); (iterate 2 exact rfl)) | refine u_l ?_ | refine u_o ?_ | refine u_q ?_ | refine u_lr ?_ | refine u_qr ?_ | refine u_ls ?_ | refine u_qs ?_ | refine u_t ?_ | refine u_f ?_ | refine v_s ?_ | refine v_o ?_ | refine v_on ?_ | refine v_og ?_ | refine v_q ?_ | refine v_sr ?_ | refine v_k ?_ | refine m_nil ?_)
  (refine awp_ret ?_; (repeat (first | refine then_r ?_ | refine block_r ?_ | refine loop_r ?_)); apply ret_ok (.inr rfl); (focus exact rfl))
  rfl
theorem impl_OutputsOf1 {q : Int} {w : List Int} (m : MV s o nx ou) (hq : 0 ≤ q ∧ q < s) (hw : w.length ≤ 400) (hl : ∀ l ∈ w, 0 ≤ l ∧ l < nx.length) : AC Try.prog 73 [.ptr (mach s o nx ou), .ptr (.int .i64 q), .ptr (ints w)] (.bool true) := by
  have hs := m.s1
  have e1 := impl_isState (o := o) (q := q) (nx := nx) (ou := ou) (s := s) (by omega)
  have e2 := impl_isWord (s := s) (o := o) (nx := nx) (ou := ou) (w := w) (by have := m.n1; omega) (by omega)
  rw [show inB q 0 (s - 1) = true by simp [inB]; omega] at e1
  rw [wordOk_of hw hl] at e2
  refine ac_intro tabIs _ Try.func73 rfl rfl Try.ntmps73 rfl rfl fun w0 ok0 => ?_
  repeat (first | refine awp_seq ?_ | refine then_n ?_ | refine then_r ?_ | refine then_x ?_ | refine block_n ?_ | refine block_r ?_ | refine block_x ?_ | refine u_y ?_ | refine loop_r ?_ | refine loop_x ?_ | refine awp_region ?_ | refine awpL_nil ?_ | refine awpQL_nil ?_ | refine awp_block ?_ | refine awp_skip ?_ | refine awp_exit ?_ | refine awp_label ?_ | refine u_dT ?_ | refine u_d ?_ | ((first | apply c_l | apply c_q | apply c_lr | apply c_qr); (iterate 2 exact rfl); (focus (first | exact e1 | exact e2)); (iterate 2 exact rfl)) | (apply v_c; (iterate 4 exact rfl); (focus (first | exact e1 | exact e2)); (iterate 2 exact rfl)) | refine u_l ?_ | refine u_o ?_ | refine u_q ?_ | refine u_lr ?_ | refine u_qr ?_ | refine u_ls ?_ | refine u_qs ?_ | refine u_t ?_ | refine u_f ?_ | refine v_s ?_ | refine v_o ?_ | refine v_on ?_ | refine v_og ?_ | refine v_q ?_ | refine v_sr ?_ | refine v_k ?_ | refine m_nil ?_)
  (refine awp_ret ?_; (repeat (first | refine then_r ?_ | refine block_r ?_ | refine loop_r ?_)); apply ret_ok (.inr rfl); (focus exact rfl))
  rfl
theorem impl_OutputsOf {q : Int} {w : List Int} (m : MV s o nx ou) (hq : 0 ≤ q ∧ q < s) (hw : w.length ≤ 400) (hl : ∀ l ∈ w, 0 ≤ l ∧ l < nx.length) :
    AC Try.prog 31 [mach s o nx ou, .int .i64 q, ints w] (.tup [ints (runO nx ou q w), .int .i64 (runS nx q w), .int .i64 0]) := by
  have e1 := impl_code (s := s) (o := o) (g := 73) (cap := [.ptr (mach s o nx ou), .ptr (.int .i64 q), .ptr (ints w)]) m.rnx m.rou fun _ => impl_OutputsOf1 m hq hw hl
  rw [machOk_mv m] at e1
  have e2 := impl_outputs m hq hw hl
  refine ac_intro tabIs _ Try.func31 rfl rfl Try.ntmps31 rfl rfl fun w0 ok0 => ?_
  repeat (first | refine awp_seq ?_ | refine then_n ?_ | refine then_r ?_ | refine then_x ?_ | refine block_n ?_ | refine block_r ?_ | refine block_x ?_ | refine u_y ?_ | refine loop_r ?_ | refine loop_x ?_ | refine awp_region ?_ | refine awpL_nil ?_ | refine awpQL_nil ?_ | refine awp_block ?_ | refine awp_skip ?_ | refine awp_exit ?_ | refine awp_label ?_ | refine u_dT ?_ | refine u_d ?_ | ((first | apply c_l | apply c_q | apply c_lr | apply c_qr); (iterate 2 exact rfl); (focus (first | exact e1 | exact e2)); (iterate 2 exact rfl)) | (apply v_c; (iterate 4 exact rfl); (focus (first | exact e1 | exact e2)); (iterate 2 exact rfl)) | refine u_l ?_ | refine u_o ?_ | refine u_q ?_ | refine u_lr ?_ | refine u_qr ?_ | refine u_ls ?_ | refine u_qs ?_ | refine u_t ?_ | refine u_f ?_ | refine v_s ?_ | refine v_o ?_ | refine v_on ?_ | refine v_og ?_ | refine v_q ?_ | refine v_sr ?_ | refine v_k ?_ | refine m_nil ?_)
  (refine awp_ret ?_; (repeat (first | refine then_r ?_ | refine block_r ?_ | refine loop_r ?_)); apply ret_ok (.inr rfl); (focus exact rfl))
  rfl

theorem ffD_v {ws : List (List Int)} (m : MV s o nx ou) (m' : MV s' o nx' ou') (hn : nx'.length = nx.length) (h : SuOk nx.length ws) :
    ffD s o s' o nx ou nx' ou' ws = if (failS nx ou nx' ou' 0 ws).1 < 0 then (0, 0, 6) else ((failS nx ou nx' ou' 0 ws).1, (failS nx ou nx' ou' 0 ws).2, 0) := by
  have : twoC s o s' o nx ou nx' ou' ws = 0 := by
    unfold twoC
    rw [if_pos (by rw [machOk_mv m, machOk_mv m']; rfl), if_pos (by rw [suiteOk_su h, hn]; simp)]
  unfold ffD
  rw [if_pos this]
theorem impl_FirstFailingV {ws : List (List Int)} {z : Int × Int × Int} (m : MV s o nx ou) (m' : MV s' o nx' ou') (hn : nx'.length = nx.length) (h : SuOk nx.length ws) (hz : (if (failS nx ou nx' ou' 0 ws).1 < 0 then (0, 0, 6) else ((failS nx ou nx' ou' 0 ws).1, (failS nx ou nx' ou' 0 ws).2, 0)) = z) :
    AC Try.prog 28 [mach s o nx ou, mach s' o nx' ou', rows ws] (.tup [.int .i64 z.1, .int .i64 z.2.1, .int .i64 z.2.2]) := by
  have := impl_FirstFailing (s := s) (o := o) (s' := s') (o' := o) m.rnx m.rou m'.rnx m'.rou (h.rows (by have := m.n1; omega))
  rwa [ffD_v m m' hn h, hz] at this
theorem spec_FirstFailingV {ws : List (List Int)} {z : Int × Int × Int} (m : MV s o nx ou) (m' : MV s' o nx' ou') (hn : nx'.length = nx.length) (h : SuOk nx.length ws) (hz : (if (failS nx ou nx' ou' 0 ws).1 < 0 then (0, 0, 6) else ((failS nx ou nx' ou' 0 ws).1, (failS nx ou nx' ou' 0 ws).2, 0)) = z) :
    AC Try.prog 29 [mach s o nx ou, mach s' o nx' ou', rows ws] (.tup [.int .i64 z.1, .int .i64 z.2.1, .int .i64 z.2.2]) := by
  have := spec_FirstFailing (s := s) (o := o) (s' := s') (o' := o) m.rnx m.rou m'.rnx m'.rou (h.rows (by have := m.n1; omega))
  rwa [ffD_v m m' hn h, hz] at this
end

/-! ### Where a machine fails -/
theorem runO_take (nx ou : List (List Int)) : ∀ (w : List Int) (s : Int) (k : Nat), (runO nx ou s w).take k = runO nx ou s (w.take k)
  | [], _, k => by simp [runO]
  | l :: w, s, 0 => by simp [runO]
  | l :: w, s, k + 1 => by simp [runO, runO_take nx ou w]
theorem failW_hit (nx ou nx' ou' : List (List Int)) : ∀ (w : List Int) (s t : Int) (k d : Nat), failW nx ou nx' ou' s t k w = (k : Int) + d → d < w.length ∧ runO nx ou s (w.take d) = runO nx' ou' t (w.take d) ∧ ¬ runO nx ou s (w.take (d + 1)) = runO nx' ou' t (w.take (d + 1))
  | [], s, t, k, d, h => by simp [failW] at h; omega
  | l :: w, s, t, k, d, h => by
    simp only [failW] at h
    split at h
    · rename_i hc
      rcases failW_ge nx ou nx' ou' w (at2 nx l s) (at2 nx' l t) (k + 1) with h' | h'
      · omega
      · obtain ⟨e, rfl⟩ : ∃ e, d = e + 1 := ⟨d - 1, by push_cast at h'; omega⟩
        obtain ⟨h1, h2, h3⟩ := failW_hit nx ou nx' ou' w (at2 nx l s) (at2 nx' l t) (k + 1) e (by rw [h]; push_cast; omega)
        refine ⟨by simp; omega, ?_, ?_⟩
        · simp only [List.take_succ_cons, runO, hc, h2]
        · simp only [List.take_succ_cons, runO, List.cons.injEq, not_and]
          exact fun _ => h3
    · rename_i hc
      have : d = 0 := by omega
      subst this
      refine ⟨by simp, by simp [runO], ?_⟩
      simp [runO, hc]
theorem failS_hit (nx ou nx' ou' : List (List Int)) : ∀ (ws : List (List Int)) (k : Nat), ¬ (failS nx ou nx' ou' k ws).1 < 0 → ∃ (i : Nat) (h : i < ws.length), failS nx ou nx' ou' k ws = ((k : Int) + i, failW nx ou nx' ou' 0 0 0 ws[i]) ∧ ¬ failW nx ou nx' ou' 0 0 0 ws[i] < 0 ∧ (failS nx ou nx' ou' k (ws.take i)).1 < 0
  | [], k, h => by simp [failS] at h
  | w :: ws, k, h => by
    by_cases hc : failW nx ou nx' ou' 0 0 0 w < 0
    · have hs : failS nx ou nx' ou' k (w :: ws) = failS nx ou nx' ou' (k + 1) ws := by simp only [failS, if_pos hc]
      rw [hs] at h ⊢
      obtain ⟨i, hi, h1, h2, h3⟩ := failS_hit nx ou nx' ou' ws (k + 1) h
      refine ⟨i + 1, by simp; omega, ?_, ?_, ?_⟩
      · rw [h1]; simp; omega
      · simpa using h2
      · simp only [List.take_succ_cons, failS, if_pos hc]; exact h3
    · refine ⟨0, by simp, ?_, hc, by simp [failS]⟩
      simp only [failS, if_neg hc]
      simp

theorem law_FnFailing {code more : List Int} (hb : BytesOk code) (hb2 : BytesOk more) : AC Try.prog 6 [u8s code, u8s more] (.bool true) := by
  have g1 := laws_f6big (code := code)
  have g2 := laws_f6big (code := more)
  by_cases c1 : (4096 : Int) < code.length
  · rw [decide_eq_true c1] at g1
    refine ac_intro tabIs _ Try.func6 rfl rfl Try.ntmps6 rfl rfl fun w0 ok0 => ?_
    repeat (first | refine awp_seq ?_ | refine then_n ?_ | refine then_r ?_ | refine then_x ?_ | refine block_n ?_ | refine block_r ?_ | refine block_x ?_ | refine u_y ?_ | refine loop_r ?_ | refine loop_x ?_ | refine awp_region ?_ | refine awpL_nil ?_ | refine awpQL_nil ?_ | refine awp_block ?_ | refine awp_skip ?_ | refine awp_exit ?_ | refine awp_label ?_ | refine u_dT ?_ | refine u_d ?_ | ((first | apply c_l | apply c_q | apply c_lr | apply c_qr); (iterate 2 exact rfl); (focus (first | exact g1)); (iterate 2 exact rfl)) | (apply v_c; (iterate 4 exact rfl); (focus (first | exact g1)); (iterate 2 exact rfl)) | refine u_l ?_ | refine u_o ?_ | refine u_q ?_ | refine u_lr ?_ | refine u_qr ?_ | refine u_ls ?_ | refine u_qs ?_ | refine u_t ?_ | refine u_f ?_ | refine v_s ?_ | refine v_o ?_ | refine v_on ?_ | refine v_og ?_ | refine v_q ?_ | refine v_sr ?_ | refine v_k ?_ | refine m_nil ?_)
    (refine awp_ret ?_; (repeat (first | refine then_r ?_ | refine block_r ?_ | refine loop_r ?_)); apply ret_ok (.inr rfl); (focus exact rfl))
    rfl
  rw [decide_eq_false c1] at g1
  by_cases c2 : (4096 : Int) < more.length
  · rw [decide_eq_true c2] at g2
    refine ac_intro tabIs _ Try.func6 rfl rfl Try.ntmps6 rfl rfl fun w0 ok0 => ?_
    repeat (first | refine awp_seq ?_ | refine then_n ?_ | refine then_r ?_ | refine then_x ?_ | refine block_n ?_ | refine block_r ?_ | refine block_x ?_ | refine u_y ?_ | refine loop_r ?_ | refine loop_x ?_ | refine awp_region ?_ | refine awpL_nil ?_ | refine awpQL_nil ?_ | refine awp_block ?_ | refine awp_skip ?_ | refine awp_exit ?_ | refine awp_label ?_ | refine u_dT ?_ | refine u_d ?_ | ((first | apply c_l | apply c_q | apply c_lr | apply c_qr); (iterate 2 exact rfl); (focus (first | exact g1 | exact g2)); (iterate 2 exact rfl)) | (apply v_c; (iterate 4 exact rfl); (focus (first | exact g1 | exact g2)); (iterate 2 exact rfl)) | refine u_l ?_ | refine u_o ?_ | refine u_q ?_ | refine u_lr ?_ | refine u_qr ?_ | refine u_ls ?_ | refine u_qs ?_ | refine u_t ?_ | refine u_f ?_ | refine v_s ?_ | refine v_o ?_ | refine v_on ?_ | refine v_og ?_ | refine v_q ?_ | refine v_sr ?_ | refine v_k ?_ | refine m_nil ?_)
    (refine awp_ret ?_; (repeat (first | refine then_r ?_ | refine block_r ?_ | refine loop_r ?_)); apply ret_ok (.inr rfl); (focus exact rfl))
    rfl
  rw [decide_eq_false c2] at g2
  have p1 := spec_P6Machine hb
  have m := mv_pmM hb
  have hs5 := pmM_s hb
  generalize pmM code = M at *
  obtain ⟨s, o, nx, ou⟩ := M
  dsimp only at p1 m hs5
  have hn := m.n1
  have hs := m.s1
  have pL := spec_P6Like (code := more) (most := s + 1) hb2 m (by omega)
  obtain ⟨m', he⟩ := mv_lk (code := more) (most := s + 1) m hb2 (by omega)
  have p2 := spec_P6Suite (code := more) (s := s) (o := o) (nx := nx) (ou := ou) hb2 (by omega)
  have su := su_psM (n := nx.length) hb2 (by omega)
  generalize psM more nx.length = ws at *
  generalize (lkM more (s + 1) s o nx ou).1 = nx' at *
  generalize (lkM more (s + 1) s o nx ou).2.1 = ou' at *
  generalize lkS more (s + 1) = s' at *
  have hs' := m'.s1
  have p5 := impl_PassesV m m' he su
  have p6 := impl_MachineDifferenceV m m' he
  by_cases hf : (failS nx ou nx' ou' 0 ws).1 < 0
  · have p3 := impl_FirstFailingV m m' he su (if_pos hf)
    have p4 := spec_FirstFailingV m m' he su (if_pos hf)
    rw [decide_eq_true hf] at p5
    generalize (if (apR nx ou nx' ou').2 = true then ints (apR nx ou nx' ou').1 else D.nils) = u at p6
    generalize (if (apR nx ou nx' ou').2 = true then (0 : Int) else 6) = u' at p6
    refine ac_intro tabIs _ Try.func6 rfl rfl Try.ntmps6 rfl rfl fun w0 ok0 => ?_
    repeat (first | refine awp_seq ?_ | refine then_n ?_ | refine then_r ?_ | refine then_x ?_ | refine block_n ?_ | refine block_r ?_ | refine block_x ?_ | refine u_y ?_ | refine loop_r ?_ | refine loop_x ?_ | refine awp_region ?_ | refine awpL_nil ?_ | refine awpQL_nil ?_ | refine awp_block ?_ | refine awp_skip ?_ | refine awp_exit ?_ | refine awp_label ?_ | refine u_dT ?_ | refine u_d ?_ | ((first | apply c_l | apply c_q | apply c_lr | apply c_qr); (iterate 2 exact rfl); (focus (first | exact g1 | exact g2 | exact p1 | exact pL | exact p2 | exact p3 | exact p4 | exact p5 | exact p6)); (iterate 2 exact rfl)) | (apply v_c; (iterate 4 exact rfl); (focus (first | exact g1 | exact g2 | exact p1 | exact pL | exact p2 | exact p3 | exact p4 | exact p5 | exact p6)); (iterate 2 exact rfl)) | refine u_l ?_ | refine u_o ?_ | refine u_q ?_ | refine u_lr ?_ | refine u_qr ?_ | refine u_ls ?_ | refine u_qs ?_ | refine u_t ?_ | refine u_f ?_ | refine v_s ?_ | refine v_o ?_ | refine v_on ?_ | refine v_og ?_ | refine v_q ?_ | refine v_sr ?_ | refine v_k ?_ | refine m_nil ?_)
    (refine awp_ret ?_; (repeat (first | refine then_r ?_ | refine block_r ?_ | refine loop_r ?_)); apply ret_ok (.inr rfl); (focus exact rfl))
    rfl
  · have p3 := impl_FirstFailingV m m' he su (if_neg hf)
    have p4 := spec_FirstFailingV m m' he su (if_neg hf)
    rw [decide_eq_false hf] at p5
    obtain ⟨i, hi, hF, hge, hbef⟩ := failS_hit nx ou nx' ou' ws 0 hf
    rw [hF] at p3 p4
    obtain ⟨hwl, hwa⟩ := su.all _ (List.getElem_mem hi)
    have hx := el_row hi
    have suT : SuOk nx.length (ws.take i) := ⟨by have := su.len; simp; omega, fun w hw => su.all w (List.mem_of_mem_take hw)⟩
    have p9 := impl_PassesV m m' he suT
    rw [decide_eq_true hbef] at p9
    have hlw := su.len
    have hleW : (List.map ints ws).length = ws.length := by simp
    generalize ws[i] = w at *
    obtain ⟨d, hd⟩ : ∃ d : Nat, failW nx ou nx' ou' 0 0 0 w = (0 : Int) + d := ⟨(failW nx ou nx' ou' 0 0 0 w).toNat, by omega⟩
    obtain ⟨q1, q2, q3⟩ := failW_hit nx ou nx' ou' w 0 0 0 d (by rw [hd]; simp)
    have hk : ∀ l ∈ w.take (d + 1), 0 ≤ l ∧ l < nx.length := fun l hl => hwa l (List.mem_of_mem_take hl)
    have hlt : (w.take (d + 1)).length = d + 1 := by simp; omega
    rw [apR_diff m m' he hk q3] at p6
    rw [if_pos rfl, if_pos rfl] at p6
    have p7 := impl_OutputsOf m (q := 0) (by omega) (by omega) hk
    have p8 := impl_OutputsOf (w := w.take (d + 1)) m' (q := 0) (by omega) (by omega) (by rw [he]; exact hk)
    have t1 := runO_take nx ou (w.take (d + 1)) 0 d
    have t2 := runO_take nx' ou' (w.take (d + 1)) 0 d
    rw [List.take_take, Nat.min_eq_left (Nat.le_succ d)] at t1 t2
    rw [← t1, ← t2] at q2
    have l1 := runO_length nx ou (w.take (d + 1)) 0
    have l2 := runO_length nx' ou' (w.take (d + 1)) 0
    rw [hlt] at l1 l2
    generalize runO nx ou 0 (w.take (d + 1)) = a at *
    generalize runO nx' ou' 0 (w.take (d + 1)) = b at *
    generalize runS nx 0 (w.take (d + 1)) = sa at *
    generalize runS nx' 0 (w.take (d + 1)) = sb at *
    have e1 := laws_f6ints (a := a) (b := b) (by omega) (by omega)
    rw [decide_eq_false q3] at e1
    have e2 := laws_f6ints (a := a.take d) (b := b.take d) (by simp; omega) (by simp; omega)
    rw [decide_eq_true q2] at e2
    generalize ints (apR nx ou nx' ou').1 = u at p6
    have hme1 : (List.map (D.int .i64) (w.take (d + 1))).length = d + 1 := by rw [List.length_map, hlt]
    have hme2 : (List.map (D.int .i64) a).length = d + 1 := by rw [List.length_map, l1]
    have hme3 : (List.map (D.int .i64) b).length = d + 1 := by rw [List.length_map, l2]
    have hme4 : (List.map (D.int .i64) w).length = w.length := by rw [List.length_map]
    have s1 := elsOk_ints w
    have s2 := elsOk_ints a
    have s3 := elsOk_ints b
    have s4 := elsOk_rows ws
    rw [hd] at p3 p4
    simp only [Int.zero_add, Int.ofNat_zero, Int.natCast_zero] at p3 p4
    have z1 : ints (w.take (d + 1)) = .lst ((w.map (D.int .i64)).take ((d : Int) + 1).toNat) := by rw [show ((d : Int) + 1).toNat = d + 1 by omega]; simp [ints]
    have z2 : ints (a.take d) = .lst ((a.map (D.int .i64)).take (d : Int).toNat) := by simp [ints]
    have z3 : ints (b.take d) = .lst ((b.map (D.int .i64)).take (d : Int).toNat) := by simp [ints]
    have z4 : rows (ws.take i) = .lst ((ws.map ints).take (i : Int).toNat) := by simp [rows]
    rw [z1] at p7 p8
    rw [z2, z3] at e2
    rw [z4] at p9
    have hme5 : ((w.map (D.int .i64)).take ((d : Int) + 1).toNat).length = d + 1 := by simp; omega
    refine ac_intro tabIs _ Try.func6 rfl rfl Try.ntmps6 rfl rfl fun w0 ok0 => ?_
    repeat (first | refine awp_seq ?_ | refine then_n ?_ | refine then_r ?_ | refine then_x ?_ | refine block_n ?_ | refine block_r ?_ | refine block_x ?_ | refine u_y ?_ | refine loop_r ?_ | refine loop_x ?_ | refine awp_region ?_ | refine awpL_nil ?_ | refine awpQL_nil ?_ | refine awp_block ?_ | refine awp_skip ?_ | refine awp_exit ?_ | refine awp_label ?_ | refine u_dT ?_ | refine u_d ?_ | ((first | apply c_l | apply c_q | apply c_lr | apply c_qr); (iterate 2 exact rfl); (focus (first | exact g1 | exact g2 | exact p1 | exact pL | exact p2 | exact p3 | exact p4 | exact p5)); (iterate 2 exact rfl)) | (apply v_c; (iterate 4 exact rfl); (focus (first | exact g1 | exact g2 | exact p1 | exact pL | exact p2 | exact p3 | exact p4 | exact p5)); (iterate 2 exact rfl)) | refine u_l ?_ | refine u_o ?_ | refine u_q ?_ | refine u_lr ?_ | refine u_qr ?_ | refine u_ls ?_ | refine u_qs ?_ | refine u_t ?_ | refine u_f ?_ | refine v_s ?_ | refine v_o ?_ | refine v_on ?_ | refine v_og ?_ | refine v_q ?_ | refine v_sr ?_ | refine v_k ?_ | refine m_nil ?_)
    rw [decide_eq_true (rfl : (i : Int) = (i : Int))]
    repeat (first | refine awp_seq ?_ | refine then_n ?_ | refine then_r ?_ | refine then_x ?_ | refine block_n ?_ | refine block_r ?_ | refine block_x ?_ | refine u_y ?_ | refine loop_r ?_ | refine loop_x ?_ | refine awp_region ?_ | refine awpL_nil ?_ | refine awpQL_nil ?_ | refine awp_block ?_ | refine awp_skip ?_ | refine awp_exit ?_ | refine awp_label ?_ | refine u_dT ?_ | refine u_d ?_ | refine u_l ?_ | refine u_o ?_ | refine u_q ?_ | refine u_lr ?_ | refine u_qr ?_ | refine u_ls ?_ | refine u_qs ?_ | refine u_t ?_ | refine u_f ?_ | refine v_s ?_ | refine v_o ?_ | refine v_on ?_ | refine v_og ?_ | refine v_q ?_ | refine v_sr ?_ | refine v_k ?_ | refine m_nil ?_)
    rw [decide_eq_true (rfl : (d : Int) = (d : Int))]
    repeat (first | refine awp_seq ?_ | refine then_n ?_ | refine then_r ?_ | refine then_x ?_ | refine block_n ?_ | refine block_r ?_ | refine block_x ?_ | refine u_y ?_ | refine loop_r ?_ | refine loop_x ?_ | refine awp_region ?_ | refine awpL_nil ?_ | refine awpQL_nil ?_ | refine awp_block ?_ | refine awp_skip ?_ | refine awp_exit ?_ | refine awp_label ?_ | refine u_dT ?_ | refine u_d ?_ | ((first | apply x_l | apply x_q | apply x_lr | apply x_qr); (focus (first | (apply qa_slice_h; (iterate 8 (focus (first | exact rfl | (first | assumption | omega | (simp; omega) | (simp; done) | rfl))))))); exact rfl) | ((first | apply c_l | apply c_q | apply c_lr | apply c_qr); (iterate 2 exact rfl); (focus (first | exact p6 | exact p7 | exact p8)); (iterate 2 exact rfl)) | (apply v_x; (iterate 2 exact rfl); (focus (intro ok0 nw hle; (first | (apply qa_slice_h; (iterate 8 (focus (first | exact rfl | (first | assumption | omega | (simp; omega) | (simp; done) | rfl)))))))); (iterate 2 exact rfl)) | (apply v_c; (iterate 4 exact rfl); (focus (first | exact p6 | exact p7 | exact p8)); (iterate 2 exact rfl)) | refine u_l ?_ | refine u_o ?_ | refine u_q ?_ | refine u_lr ?_ | refine u_qr ?_ | refine u_ls ?_ | refine u_qs ?_ | refine u_t ?_ | refine u_f ?_ | refine v_s ?_ | refine v_o ?_ | refine v_on ?_ | refine v_og ?_ | refine v_q ?_ | refine v_sr ?_ | refine v_k ?_ | refine m_nil ?_)
    rw [show decide (((List.map (D.int .i64) a).length : Int) = (((List.map (D.int .i64) w).take ((d : Int) + 1).toNat).length : Int)) = true from decide_eq_true (by rw [hme2, hme5])]
    repeat (first | refine awp_seq ?_ | refine then_n ?_ | refine then_r ?_ | refine then_x ?_ | refine block_n ?_ | refine block_r ?_ | refine block_x ?_ | refine u_y ?_ | refine loop_r ?_ | refine loop_x ?_ | refine awp_region ?_ | refine awpL_nil ?_ | refine awpQL_nil ?_ | refine awp_block ?_ | refine awp_skip ?_ | refine awp_exit ?_ | refine awp_label ?_ | refine u_dT ?_ | refine u_d ?_ | refine u_l ?_ | refine u_o ?_ | refine u_q ?_ | refine u_lr ?_ | refine u_qr ?_ | refine u_ls ?_ | refine u_qs ?_ | refine u_t ?_ | refine u_f ?_ | refine v_s ?_ | refine v_o ?_ | refine v_on ?_ | refine v_og ?_ | refine v_q ?_ | refine v_sr ?_ | refine v_k ?_ | refine m_nil ?_)
    rw [show decide (((List.map (D.int .i64) b).length : Int) = (((List.map (D.int .i64) w).take ((d : Int) + 1).toNat).length : Int)) = true from decide_eq_true (by rw [hme3, hme5])]
    repeat (first | refine awp_seq ?_ | refine then_n ?_ | refine then_r ?_ | refine then_x ?_ | refine block_n ?_ | refine block_r ?_ | refine block_x ?_ | refine u_y ?_ | refine loop_r ?_ | refine loop_x ?_ | refine awp_region ?_ | refine awpL_nil ?_ | refine awpQL_nil ?_ | refine awp_block ?_ | refine awp_skip ?_ | refine awp_exit ?_ | refine awp_label ?_ | refine u_dT ?_ | refine u_d ?_ | ((first | apply x_l | apply x_q | apply x_lr | apply x_qr); (focus (first | (apply qa_slice_h; (iterate 8 (focus (first | exact rfl | (first | assumption | omega | (simp; omega) | (simp; done) | rfl))))))); exact rfl) | ((first | apply c_l | apply c_q | apply c_lr | apply c_qr); (iterate 2 exact rfl); (focus (first | exact p9 | exact e1 | exact e2)); (iterate 2 exact rfl)) | (apply v_x; (iterate 2 exact rfl); (focus (intro ok0 nw hle; (first | (apply qa_slice_h; (iterate 8 (focus (first | exact rfl | (first | assumption | omega | (simp; omega) | (simp; done) | rfl)))))))); (iterate 2 exact rfl)) | (apply v_c; (iterate 4 exact rfl); (focus (first | exact p9 | exact e1 | exact e2)); (iterate 2 exact rfl)) | refine u_l ?_ | refine u_o ?_ | refine u_q ?_ | refine u_lr ?_ | refine u_qr ?_ | refine u_ls ?_ | refine u_qs ?_ | refine u_t ?_ | refine u_f ?_ | refine v_s ?_ | refine v_o ?_ | refine v_on ?_ | refine v_og ?_ | refine v_q ?_ | refine v_sr ?_ | refine v_k ?_ | refine m_nil ?_)
    (refine awp_ret ?_; (repeat (first | refine then_r ?_ | refine block_r ?_ | refine loop_r ?_)); apply ret_ok (.inr rfl); (focus exact rfl))
    rfl
end Go.Proofs.Ythcaccakbmooeaa
