/- StateCover in the reference. No condition. -/
import Derived.Test.YtfemhnmggobhjaaIa
namespace Go.Proofs.Ytfemhnmggobhjaa
open Go
attribute [local irreducible] awp awpL awpQL awpQ awpM pWalk Qt AC thenQ blockQ loopQ OpTo
set_option linter.unusedVariables false
set_option linter.unusedSimpArgs false
set_option maxHeartbeats 2000000
attribute [local irreducible] HC

/-- The word of a state. -/
def cvW (L : PL) (q : Nat) : List Int := ((L.find? fun p => p.1 == q).map (·.2)).getD []
theorem cvW_at {L : PL} (hn : (L.map (·.1)).Nodup) {j : Nat} {p : Nat × List Int} (hp : L[j]? = some p) : cvW L p.1 = p.2 := by
  induction L generalizing j with
  | nil => simp at hp
  | cons a L ih =>
    simp only [List.map_cons, List.nodup_cons] at hn
    unfold cvW
    rw [List.find?_cons]
    cases j with
    | zero => simp at hp; subst hp; simp
    | succ j =>
      have hp' : L[j]? = some p := by simpa using hp
      have hne : (a.1 == p.1) = false := by
        have : a.1 ≠ p.1 := fun e => hn.1 (e ▸ List.mem_map_of_mem (List.mem_of_getElem? hp'))
        simpa using this
      rw [hne]
      exact ih hn.2 hp'
theorem nodup_all {N : Nat} {l : List Nat} (hn : l.Nodup) (hl : ∀ x ∈ l, x < N) (hlen : N ≤ l.length) {q : Nat} (hq : q < N) : q ∈ l := by
  refine Classical.byContradiction fun hno => ?_
  have := nodupLe N (q :: l) (List.nodup_cons.2 ⟨hno, hn⟩) fun x hx => by
    rcases List.mem_cons.1 hx with rfl | hx
    · exact hq
    · exact hl x hx
  simp at this
  omega
def stC (L : PL) (n j : Nat) : List D := (List.range n).map fun q => if q ∈ (L.take j).map (·.1) then ints (cvW L q) else .nils
theorem stC_zero (L : PL) (n : Nat) : List.replicate n D.nils = stC L n 0 := by
  apply List.ext_getElem
  · simp [stC]
  · intro i h1 h2; simp [stC]
theorem stC_next {L : PL} (hn : (L.map (·.1)).Nodup) {n j : Nat} {p : Nat × List Int} (hp : L[j]? = some p) : (stC L n j).set p.1 (ints p.2) = stC L n (j + 1) := by
  have hj : j < L.length := by
    rcases Nat.lt_or_ge j L.length with h | h
    · exact h
    · simp [h] at hp
  have hpe : L[j] = p := by rw [List.getElem?_eq_getElem hj] at hp; exact Option.some.inj hp
  apply List.ext_getElem?
  intro i
  rw [List.getElem?_set]
  unfold stC
  rw [List.take_succ_eq_append_getElem hj, hpe]
  by_cases hi : p.1 = i
  · subst hi
    by_cases hin : p.1 < n
    · simp [hin, cvW_at hn hp]
    · simp [hin]
  · rw [if_neg hi]
    by_cases hin : i < n
    · have : ¬ i = p.1 := fun e => hi e.symm
      simp [hin, this]
    · simp [hin]
def cvR (L : PL) (n : Nat) : List (List Int) := (List.range n).map (cvW L)
theorem stC_all {s : Int} {n : Nat} {L : PL} (h : COk s n L) (hl : s.toNat ≤ L.length) : stC L s.toNat L.length = (cvR L s.toNat).map ints := by
  unfold stC cvR
  rw [List.map_map, List.take_length]
  refine List.map_congr_left fun q hq => ?_
  have hq := List.mem_range.1 hq
  have := nodup_all h.nd (N := s.toNat) (fun x hx => by
    obtain ⟨p, hp, rfl⟩ := List.mem_map.1 hx
    have := h.lt p hp
    omega) (by simpa using hl) hq
  rw [if_pos this]
  rfl
/-- What StateCover answers. -/
def scD (s o : Int) (nx ou : List (List Int)) : List (List Int) × Int :=
  if machOk s o nx ou then (if ((covL nx).length : Int) < s then ([], 4) else (cvR (covL nx) s.toNat, 0)) else ([], 1)

theorem spec_l07Cover {s o : Int} {nx ou : List (List Int)} (m : MV s o nx ou) : AC Try.prog 24 [.ptr (mach s o nx ou)] (.tup [rows (if ((covL nx).length : Int) < s then [] else cvR (covL nx) s.toNat), .bool (!decide (((covL nx).length : Int) < s))]) := by
  have hs := m.s1
  have e1 := spec_l06Cover m
  have hok : COk s nx.length (covL nx) := lstC_ok m 10
  have hl := lstC_len m 10
  have hl : (covL nx).length ≤ 10 := hl
  generalize covL nx = L at *
  have hol : (ordI L).length = L.length := by simp [ordI]
  have hwl : (wrd L).length = L.length := by simp [wrd]
  have hom : (List.map (D.int .i64) (ordI L)).length = L.length := by simp [ordI]
  have hwm : (List.map ints (wrd L)).length = L.length := by simp [wrd]
  unfold mach at *
  by_cases hc : (L.length : Int) < s
  · rw [if_pos hc, decide_eq_true hc]
    refine ac_intro tabIs _ Try.func24 rfl rfl Try.ntmps24 rfl rfl fun w0 ok0 => ?_
    repeat (first | refine awp_seq ?_ | refine then_n ?_ | refine then_r ?_ | refine then_x ?_ | refine block_n ?_ | refine block_r ?_ | refine block_x ?_ | refine u_y ?_ | refine loop_r ?_ | refine loop_x ?_ | refine awp_region ?_ | refine awpL_nil ?_ | refine awpQL_nil ?_ | refine awp_block ?_ | refine awp_skip ?_ | refine awp_exit ?_ | refine awp_label ?_ | refine u_dT ?_ | refine u_d ?_ | ((first | apply c_l | apply c_q | apply c_lr | apply c_qr); (iterate 2 exact rfl); (focus (first | exact e1)); (iterate 2 exact rfl)) | (apply v_c; (iterate 4 exact rfl); (focus (first | exact e1)); (iterate 2 exact rfl)) | refine u_l ?_ | refine u_o ?_ | refine u_q ?_ | refine u_lr ?_ | refine u_qr ?_ | refine u_ls ?_ | refine u_qs ?_ | refine u_t ?_ | refine u_f ?_ | refine v_s ?_ | refine v_o ?_ | refine v_on ?_ | refine v_og ?_ | refine v_q ?_ | refine v_sr ?_ | refine v_k ?_ | refine m_nil ?_)
    (refine awp_ret ?_; (repeat (first | refine then_r ?_ | refine block_r ?_ | refine loop_r ?_)); apply ret_ok (.inr rfl); (focus exact rfl))
    rfl
  · rw [if_neg hc, decide_eq_false hc]
    refine ac_intro tabIs _ Try.func24 rfl rfl Try.ntmps24 rfl rfl fun w0 ok0 => ?_
    repeat (first | refine awp_seq ?_ | refine then_n ?_ | refine then_r ?_ | refine then_x ?_ | refine block_n ?_ | refine block_r ?_ | refine block_x ?_ | refine u_y ?_ | refine loop_r ?_ | refine loop_x ?_ | refine awp_region ?_ | refine awpL_nil ?_ | refine awpQL_nil ?_ | refine awp_block ?_ | refine awp_skip ?_ | refine awp_exit ?_ | refine awp_label ?_ | refine u_dT ?_ | refine u_d ?_ | ((first | apply c_l | apply c_q | apply c_lr | apply c_qr); (iterate 2 exact rfl); (focus (first | exact e1)); (iterate 2 exact rfl)) | (apply v_c; (iterate 4 exact rfl); (focus (first | exact e1)); (iterate 2 exact rfl)) | refine u_l ?_ | refine u_o ?_ | refine u_q ?_ | refine u_lr ?_ | refine u_qr ?_ | refine u_ls ?_ | refine u_qs ?_ | refine u_t ?_ | refine u_f ?_ | refine v_s ?_ | refine v_o ?_ | refine v_on ?_ | refine v_og ?_ | refine v_q ?_ | refine v_sr ?_ | refine v_k ?_ | refine m_nil ?_)
    refine awp_loop (fun j : Nat => j ≤ L.length) (fun j => [(4, .d (ints (ordI L))), (5, .d (rows (wrd L))), (6, .own 25), (7, .d (.int .i64 j))]) (fun j => [(25, .arr 42 1 (stC L s.toNat j))]) (fun j => L.length - j) 0 (by omega) ?_ ?_ ?_
    · ((repeat (first | exact trivial | (refine ⟨?_, ?_⟩; (focus (first | rfl | (simp [lk, argsS, args0]; done) | (simp [lk, argsS, args0]; omega)))))))
    · rw [← stC_zero]; rfl
    · intro j hj
      have hsl : (stC L s.toNat j).length = s.toNat := by simp [stC]
      by_cases hlt : j < L.length
      · have hp : L[j]? = some L[j] := List.getElem?_eq_getElem hlt
        have hst := stC_next hok.nd (n := s.toNat) hp
        have hlo := hok.lt _ (List.getElem_mem hlt)
        have x1 : (List.map (D.int .i64) (ordI L))[(j : Int).toNat]? = some (.int .i64 (L[j].1 : Nat)) := by rw [Int.toNat_natCast]; simp [ordI, hp]
        have x2 : (List.map ints (wrd L))[(j : Int).toNat]? = some (ints L[j].2) := by rw [Int.toNat_natCast]; simp [wrd, hp]
        generalize L[j] = p at *
        repeat (first | refine awp_seq ?_ | refine then_n ?_ | refine then_r ?_ | refine then_x ?_ | refine block_n ?_ | refine block_r ?_ | refine block_x ?_ | refine u_y ?_ | refine loop_r ?_ | refine loop_x ?_ | refine awp_region ?_ | refine awpL_nil ?_ | refine awpQL_nil ?_ | refine awp_block ?_ | refine awp_skip ?_ | refine awp_exit ?_ | refine awp_label ?_ | refine u_dT ?_ | refine u_d ?_ | refine u_l ?_ | refine u_o ?_ | refine u_q ?_ | refine u_lr ?_ | refine u_qr ?_ | refine u_ls ?_ | refine u_qs ?_ | refine u_t ?_ | refine u_f ?_ | refine v_s ?_ | refine v_o ?_ | refine v_on ?_ | refine v_og ?_ | refine v_q ?_ | refine v_sr ?_ | refine v_k ?_ | refine m_nil ?_)
        refine loop_n (j + 1) (by omega) ?_ ?_ (by omega)
        · ((repeat (first | exact trivial | (refine ⟨?_, ?_⟩; (focus (first | rfl | (simp [lk, argsS, args0]; done) | (simp [lk, argsS, args0]; omega)))))))
        · rw [← hst]; rfl
      · have hje : j = L.length := by omega
        subst hje
        have hall := stC_all hok (by omega)
        repeat (first | refine awp_seq ?_ | refine then_n ?_ | refine then_r ?_ | refine then_x ?_ | refine block_n ?_ | refine block_r ?_ | refine block_x ?_ | refine u_y ?_ | refine loop_r ?_ | refine loop_x ?_ | refine awp_region ?_ | refine awpL_nil ?_ | refine awpQL_nil ?_ | refine awp_block ?_ | refine awp_skip ?_ | refine awp_exit ?_ | refine awp_label ?_ | refine u_dT ?_ | refine u_d ?_ | refine u_l ?_ | refine u_o ?_ | refine u_q ?_ | refine u_lr ?_ | refine u_qr ?_ | refine u_ls ?_ | refine u_qs ?_ | refine u_t ?_ | refine u_f ?_ | refine v_s ?_ | refine v_o ?_ | refine v_on ?_ | refine v_og ?_ | refine v_q ?_ | refine v_sr ?_ | refine v_k ?_ | refine m_nil ?_)
        (refine awp_ret ?_; (repeat (first | refine then_r ?_ | refine block_r ?_ | refine loop_r ?_)); apply ret_ok (.inr rfl); (focus exact rfl))
        rw [hall]
        rfl

theorem spec_StateCover {s o : Int} {nx ou : List (List Int)} (h1 : RowsOk nx) (h2 : RowsOk ou) : AC Try.prog 14 [mach s o nx ou] (.tup [rows (scD s o nx ou).1, .int .i64 (scD s o nx ou).2]) := by
  have e1 := spec_l06Ok (s := s) (o := o) h1 h2
  unfold scD
  by_cases hv : machOk s o nx ou = true
  · rw [if_pos hv]
    rw [hv] at e1
    have e2 := spec_l07Cover (mv_of hv)
    by_cases hc : ((covL nx).length : Int) < s
    · rw [if_pos hc] at e2 ⊢
      rw [decide_eq_true hc] at e2
      unfold mach at *
      refine ac_intro tabIs _ Try.func14 rfl rfl Try.ntmps14 rfl rfl fun w0 ok0 => ?_
      repeat (first | refine awp_seq ?_ | refine then_n ?_ | refine then_r ?_ | refine then_x ?_ | refine block_n ?_ | refine block_r ?_ | refine block_x ?_ | refine u_y ?_ | refine loop_r ?_ | refine loop_x ?_ | refine awp_region ?_ | refine awpL_nil ?_ | refine awpQL_nil ?_ | refine awp_block ?_ | refine awp_skip ?_ | refine awp_exit ?_ | refine awp_label ?_ | refine u_dT ?_ | refine u_d ?_ | ((first | apply c_l | apply c_q | apply c_lr | apply c_qr); (iterate 2 exact rfl); (focus (first | exact e1 | exact e2)); (iterate 2 exact rfl)) | (apply v_c; (iterate 4 exact rfl); (focus (first | exact e1 | exact e2)); (iterate 2 exact rfl)) | refine u_l ?_ | refine u_o ?_ | refine u_q ?_ | refine u_lr ?_ | refine u_qr ?_ | refine u_ls ?_ | refine u_qs ?_ | refine u_t ?_ | refine u_f ?_ | refine v_s ?_ | refine v_o ?_ | refine v_on ?_ | refine v_og ?_ | refine v_q ?_ | refine v_sr ?_ | refine v_k ?_ | refine m_nil ?_)
      (refine awp_ret ?_; (repeat (first | refine then_r ?_ | refine block_r ?_ | refine loop_r ?_)); apply ret_ok (.inr rfl); (focus exact rfl))
      rfl
    · rw [if_neg hc] at e2 ⊢
      rw [decide_eq_false hc] at e2
      unfold mach at *
      refine ac_intro tabIs _ Try.func14 rfl rfl Try.ntmps14 rfl rfl fun w0 ok0 => ?_
      repeat (first | refine awp_seq ?_ | refine then_n ?_ | refine then_r ?_ | refine then_x ?_ | refine block_n ?_ | refine block_r ?_ | refine block_x ?_ | refine u_y ?_ | refine loop_r ?_ | refine loop_x ?_ | refine awp_region ?_ | refine awpL_nil ?_ | refine awpQL_nil ?_ | refine awp_block ?_ | refine awp_skip ?_ | refine awp_exit ?_ | refine awp_label ?_ | refine u_dT ?_ | refine u_d ?_ | ((first | apply c_l | apply c_q | apply c_lr | apply c_qr); (iterate 2 exact rfl); (focus (first | exact e1 | exact e2)); (iterate 2 exact rfl)) | (apply v_c; (iterate 4 exact rfl); (focus (first | exact e1 | exact e2)); (iterate 2 exact rfl)) | refine u_l ?_ | refine u_o ?_ | refine u_q ?_ | refine u_lr ?_ | refine u_qr ?_ | refine u_ls ?_ | refine u_qs ?_ | refine u_t ?_ | refine u_f ?_ | refine v_s ?_ | refine v_o ?_ | refine v_on ?_ | refine v_og ?_ | refine v_q ?_ | refine v_sr ?_ | refine v_k ?_ | refine m_nil ?_)
      (refine awp_ret ?_; (repeat (first | refine then_r ?_ | refine block_r ?_ | refine loop_r ?_)); apply ret_ok (.inr rfl); (focus exact rfl))
      rfl
  · rw [if_neg hv]
    rw [Bool.not_eq_true] at hv
    rw [hv] at e1
    unfold mach at *
    refine ac_intro tabIs _ Try.func14 rfl rfl Try.ntmps14 rfl rfl fun w0 ok0 => ?_
    repeat (first | refine awp_seq ?_ | refine then_n ?_ | refine then_r ?_ | refine then_x ?_ | refine block_n ?_ | refine block_r ?_ | refine block_x ?_ | refine u_y ?_ | refine loop_r ?_ | refine loop_x ?_ | refine awp_region ?_ | refine awpL_nil ?_ | refine awpQL_nil ?_ | refine awp_block ?_ | refine awp_skip ?_ | refine awp_exit ?_ | refine awp_label ?_ | refine u_dT ?_ | refine u_d ?_ | ((first | apply c_l | apply c_q | apply c_lr | apply c_qr); (iterate 2 exact rfl); (focus (first | exact e1)); (iterate 2 exact rfl)) | (apply v_c; (iterate 4 exact rfl); (focus (first | exact e1)); (iterate 2 exact rfl)) | refine u_l ?_ | refine u_o ?_ | refine u_q ?_ | refine u_lr ?_ | refine u_qr ?_ | refine u_ls ?_ | refine u_qs ?_ | refine u_t ?_ | refine u_f ?_ | refine v_s ?_ | refine v_o ?_ | refine v_on ?_ | refine v_og ?_ | refine v_q ?_ | refine v_sr ?_ | refine v_k ?_ | refine m_nil ?_)
    (refine awp_ret ?_; (repeat (first | refine then_r ?_ | refine block_r ?_ | refine loop_r ?_)); apply ret_ok (.inr rfl); (focus exact rfl))
    rfl
end Go.Proofs.Ytfemhnmggobhjaa
