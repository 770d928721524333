/- The states that can be reached, and the first words that lead to them: plain facts, and the reference. No condition. -/
import Derived.Test.YtfemhnmggobhjaaCa
import Derived.Test.YtfemhnmggobhjaaFwZ
namespace Go.Proofs.Ytfemhnmggobhjaa
open Go
attribute [local irreducible] awp awpL awpQL awpQ awpM pWalk Qt AC thenQ blockQ loopQ OpTo
set_option linter.unusedVariables false
set_option linter.unusedSimpArgs false
set_option maxHeartbeats 2000000
attribute [local irreducible] HC

def nxC (nx : List (List Int)) (c x : Nat) : Nat := (at2 nx x c).toNat
def letC (nx : List (List Int)) (p : Nat × List Int) (L : PL) : Nat → PL
  | 0 => L
  | x + 1 => addP (letC nx p L x) (nxC nx p.1 x) (p.2 ++ [(x : Int)])
def lstC (nx : List (List Int)) : Nat → PL
  | 0 => [(0, [])]
  | i + 1 => match (lstC nx i)[i]? with
    | some p => letC nx p (lstC nx i) nx.length
    | none => lstC nx i

structure COk (s : Int) (n : Nat) (L : PL) : Prop where
  nd : (L.map (·.1)).Nodup
  lt : ∀ p ∈ L, (p.1 : Int) < s
  wl : ∀ p ∈ L, p.2.length < L.length
  el : ∀ p ∈ L, ∀ l ∈ p.2, 0 ≤ l ∧ l < n
theorem COk.len {s : Int} {n : Nat} {L : PL} (h : COk s n L) (hs : 1 ≤ s ∧ s ≤ 10) : L.length ≤ s.toNat := by
  have := nodupLe s.toNat (L.map (·.1)) h.nd fun x hx => by
    obtain ⟨p, hp, rfl⟩ := List.mem_map.1 hx
    have := h.lt p hp
    omega
  simpa using this
theorem addP_okC {s : Int} {n : Nat} {L : PL} {c : Nat} {w : List Int} (h : COk s n L) (hc : (c : Int) < s) (hw : w.length ≤ L.length) (hl : ∀ l ∈ w, 0 ≤ l ∧ l < n) : COk s n (addP L c w) := by
  unfold addP
  split
  · exact h
  · rename_i hn
    refine ⟨?_, fun p hp => ?_, fun p hp => ?_, fun p hp => ?_⟩
    · rw [List.map_append]
      refine List.nodup_append.2 ⟨h.nd, by simp, fun a ha b hb => ?_⟩
      simp only [List.map_cons, List.map_nil, List.mem_singleton] at hb
      subst hb
      exact fun e => hn (e ▸ ha)
    · rcases List.mem_append.1 hp with h1 | h1
      · exact h.lt p h1
      · simp only [List.mem_singleton] at h1; subst h1; exact hc
    · rw [List.length_append, List.length_singleton]
      rcases List.mem_append.1 hp with h1 | h1
      · have := h.wl p h1; omega
      · simp only [List.mem_singleton] at h1; subst h1; show w.length < _; omega
    · rcases List.mem_append.1 hp with h1 | h1
      · exact h.el p h1
      · simp only [List.mem_singleton] at h1; subst h1; exact hl
theorem letC_pre (nx : List (List Int)) (p : Nat × List Int) (L : PL) : ∀ k, ∃ t, letC nx p L k = L ++ t
  | 0 => ⟨[], by simp [letC]⟩
  | k + 1 => by
    obtain ⟨t, ht⟩ := letC_pre nx p L k
    obtain ⟨u, hu⟩ := addP_pre (letC nx p L k) (nxC nx p.1 k) (p.2 ++ [(k : Int)])
    exact ⟨t ++ u, by show addP _ _ _ = _; rw [hu, ht, List.append_assoc]⟩
section
variable {s o : Int} {nx ou : List (List Int)}
theorem nxC_ok (m : MV s o nx ou) {c x : Nat} (hx : x < nx.length) (hc : (c : Int) < s) : ((nxC nx c x : Nat) : Int) = at2 nx x c ∧ 0 ≤ at2 nx x c ∧ at2 nx x c < s := by
  have h1 := tbl_at m.nx (l := (x : Int)) (q := (c : Int)) (by omega) (by omega)
  unfold nxC
  omega
theorem letC_ok (m : MV s o nx ou) {p : Nat × List Int} {L : PL} (h : COk s nx.length L) (hp : p ∈ L) : ∀ k, k ≤ nx.length → COk s nx.length (letC nx p L k)
  | 0, _ => h
  | k + 1, hk => by
    have ih := letC_ok m h hp k (by omega)
    obtain ⟨h1, h2, h3⟩ := nxC_ok m (c := p.1) (x := k) (by omega) (h.lt p hp)
    obtain ⟨t, ht⟩ := letC_pre nx p L k
    have hw := h.wl p hp
    refine addP_okC ih (by omega) ?_ fun l hl => ?_
    · rw [ht, List.length_append, List.length_append]
      simp only [List.length_singleton]
      omega
    · rcases List.mem_append.1 hl with hl | hl
      · exact h.el p hp l hl
      · simp only [List.mem_singleton] at hl; subst hl; omega
theorem lstC_ok (m : MV s o nx ou) : ∀ i, COk s nx.length (lstC nx i)
  | 0 => by
    have h1 := m.s1
    refine ⟨by simp [lstC], fun p hp => ?_, fun p hp => ?_, fun p hp => ?_⟩
    · simp only [lstC, List.mem_singleton] at hp; subst hp; simp; omega
    · simp only [lstC, List.mem_singleton] at hp; subst hp; simp [lstC]
    · simp only [lstC, List.mem_singleton] at hp; subst hp; simp
  | i + 1 => by
    have ih := lstC_ok m i
    unfold lstC
    split
    · rename_i p hp
      exact letC_ok m ih (List.mem_of_getElem? hp) nx.length (Nat.le_refl _)
    · exact ih
theorem lstC_len (m : MV s o nx ou) (i : Nat) : (lstC nx i).length ≤ 10 := by
  have := (lstC_ok m i).len m.s1
  have := m.s1
  omega
theorem lstC_next {i : Nat} {p : Nat × List Int} (hp : (lstC nx i)[i]? = some p) : lstC nx (i + 1) = letC nx p (lstC nx i) nx.length := by
  conv => lhs; unfold lstC
  rw [hp]
theorem lstC_stop {i : Nat} (h : (lstC nx i).length ≤ i) : ∀ d, lstC nx (i + d) = lstC nx i
  | 0 => rfl
  | d + 1 => by
    have ih := lstC_stop h d
    show lstC nx (i + d + 1) = _
    conv => lhs; unfold lstC
    rw [ih, List.getElem?_eq_none (by omega)]
/-- All states that can be reached, each with its word. -/
def covL (nx : List (List Int)) : PL := lstC nx 10
theorem covL_eq (m : MV s o nx ou) {i : Nat} (hi : i ≤ 10) (h : (lstC nx i).length ≤ i) : lstC nx i = covL nx := by
  have := lstC_stop h (10 - i)
  rw [show i + (10 - i) = 10 by omega] at this
  exact this.symm
end

def ordD (L : PL) : List D := L.map fun p => D.int .i64 (p.1 : Nat)
def ordI (L : PL) : List Int := L.map fun p => ((p.1 : Nat) : Int)
def wrd (L : PL) : List (List Int) := L.map (·.2)
theorem ordD_ints (L : PL) : ordD L = (ordI L).map (.int .i64) := by simp [ordD, ordI]
theorem addP_new {L : PL} {c : Nat} {w : List Int} (h : c ∉ L.map (·.1)) : addP L c w = L ++ [(c, w)] := if_neg h
theorem addP_old {L : PL} {c : Nat} {w : List Int} (h : c ∈ L.map (·.1)) : addP L c w = L := if_pos h
theorem mem_ordI {c : Nat} {L : PL} : ((c : Nat) : Int) ∈ ordI L ↔ c ∈ L.map (·.1) := by
  unfold ordI
  simp only [List.mem_map]
  constructor
  · rintro ⟨p, hp, e⟩; exact ⟨p, hp, by omega⟩
  · rintro ⟨p, hp, e⟩; exact ⟨p, hp, by omega⟩

theorem spec_l00HasE {L : List Int} {n : Int} (hl : L.length ≤ 100000) : AC Try.prog 58 [ints L, .int .i64 n] (.bool (decide (n ∈ L))) := by
  have hle : (List.map (D.int .i64) L).length = L.length := by simp
  refine ac_intro tabIs _ Try.func58 rfl rfl Try.ntmps58 rfl rfl fun w0 ok0 => ?_
  repeat (first | refine awp_seq ?_ | refine then_n ?_ | refine then_r ?_ | refine then_x ?_ | refine block_n ?_ | refine block_r ?_ | refine block_x ?_ | refine u_y ?_ | refine loop_r ?_ | refine loop_x ?_ | refine awp_region ?_ | refine awpL_nil ?_ | refine awpQL_nil ?_ | refine awp_block ?_ | refine awp_skip ?_ | refine awp_exit ?_ | refine awp_label ?_ | refine u_dT ?_ | refine u_d ?_ | refine u_l ?_ | refine u_o ?_ | refine u_q ?_ | refine u_lr ?_ | refine u_qr ?_ | refine u_ls ?_ | refine u_qs ?_ | refine u_t ?_ | refine u_f ?_ | refine v_s ?_ | refine v_o ?_ | refine v_on ?_ | refine v_og ?_ | refine v_q ?_ | refine v_sr ?_ | refine v_k ?_ | refine m_nil ?_)
  refine awp_loop (fun i : Nat => i ≤ L.length ∧ n ∉ L.take i) (fun i => [(0, .d (ints L)), (1, .d (.int .i64 n)), (5, .d (.int .i64 i))]) (fun i => []) (fun i => L.length - i) 0 ⟨by omega, by simp⟩ ?_ rfl ?_
  · ((repeat (first | exact trivial | (refine ⟨?_, ?_⟩; (focus (first | rfl | (simp [lk, argsS, args0]; done) | (simp [lk, argsS, args0]; omega)))))))
  · rintro i ⟨hi, hno⟩
    by_cases hlt : i < L.length
    · have hx := el_int hlt
      by_cases he : L[i] = n
      · repeat (first | refine awp_seq ?_ | refine then_n ?_ | refine then_r ?_ | refine then_x ?_ | refine block_n ?_ | refine block_r ?_ | refine block_x ?_ | refine u_y ?_ | refine loop_r ?_ | refine loop_x ?_ | refine awp_region ?_ | refine awpL_nil ?_ | refine awpQL_nil ?_ | refine awp_block ?_ | refine awp_skip ?_ | refine awp_exit ?_ | refine awp_label ?_ | refine u_dT ?_ | refine u_d ?_ | refine u_l ?_ | refine u_o ?_ | refine u_q ?_ | refine u_lr ?_ | refine u_qr ?_ | refine u_ls ?_ | refine u_qs ?_ | refine u_t ?_ | refine u_f ?_ | refine v_s ?_ | refine v_o ?_ | refine v_on ?_ | refine v_og ?_ | refine v_q ?_ | refine v_sr ?_ | refine v_k ?_ | refine m_nil ?_)
        (refine awp_ret ?_; (repeat (first | refine then_r ?_ | refine block_r ?_ | refine loop_r ?_)); apply ret_ok (.inr rfl); (focus exact rfl))
        rw [decide_eq_true (he ▸ List.getElem_mem hlt)]
      · repeat (first | refine awp_seq ?_ | refine then_n ?_ | refine then_r ?_ | refine then_x ?_ | refine block_n ?_ | refine block_r ?_ | refine block_x ?_ | refine u_y ?_ | refine loop_r ?_ | refine loop_x ?_ | refine awp_region ?_ | refine awpL_nil ?_ | refine awpQL_nil ?_ | refine awp_block ?_ | refine awp_skip ?_ | refine awp_exit ?_ | refine awp_label ?_ | refine u_dT ?_ | refine u_d ?_ | refine u_l ?_ | refine u_o ?_ | refine u_q ?_ | refine u_lr ?_ | refine u_qr ?_ | refine u_ls ?_ | refine u_qs ?_ | refine u_t ?_ | refine u_f ?_ | refine v_s ?_ | refine v_o ?_ | refine v_on ?_ | refine v_og ?_ | refine v_q ?_ | refine v_sr ?_ | refine v_k ?_ | refine m_nil ?_)
        refine loop_n (i + 1) ⟨by omega, ?_⟩ ?_ rfl (by omega)
        · rw [List.take_succ_eq_append_getElem hlt]
          simp only [List.mem_append, List.mem_singleton, not_or]
          exact ⟨hno, fun h => he h.symm⟩
        · ((repeat (first | exact trivial | (refine ⟨?_, ?_⟩; (focus (first | rfl | (simp [lk, argsS, args0]; done) | (simp [lk, argsS, args0]; omega)))))))
    · have hie : i = L.length := by omega
      subst hie
      rw [List.take_length] at hno
      rw [decide_eq_false hno]
      repeat (first | refine awp_seq ?_ | refine then_n ?_ | refine then_r ?_ | refine then_x ?_ | refine block_n ?_ | refine block_r ?_ | refine block_x ?_ | refine u_y ?_ | refine loop_r ?_ | refine loop_x ?_ | refine awp_region ?_ | refine awpL_nil ?_ | refine awpQL_nil ?_ | refine awp_block ?_ | refine awp_skip ?_ | refine awp_exit ?_ | refine awp_label ?_ | refine u_dT ?_ | refine u_d ?_ | refine u_l ?_ | refine u_o ?_ | refine u_q ?_ | refine u_lr ?_ | refine u_qr ?_ | refine u_ls ?_ | refine u_qs ?_ | refine u_t ?_ | refine u_f ?_ | refine v_s ?_ | refine v_o ?_ | refine v_on ?_ | refine v_og ?_ | refine v_q ?_ | refine v_sr ?_ | refine v_k ?_ | refine m_nil ?_)
      (refine awp_ret ?_; (repeat (first | refine then_r ?_ | refine block_r ?_ | refine loop_r ?_)); apply ret_ok (.inr rfl); (focus exact rfl))
      rfl

theorem spec_l06Cover {s o : Int} {nx ou : List (List Int)} (m : MV s o nx ou) : AC Try.prog 42 [.ptr (mach s o nx ou)] (.tup [ints (ordI (covL nx)), rows (wrd (covL nx))]) := by
  have hs := m.s1
  have hn := m.n1
  have hle : (List.map ints nx).length = nx.length := by simp
  have hlen := fun i => lstC_len m i
  have hokk := fun i => lstC_ok m i
  have hrl := fun l (hl : 0 ≤ l ∧ l < (nx.length : Int)) => tbl_row m.nx hl
  unfold mach
  refine ac_intro tabIs _ Try.func42 rfl rfl Try.ntmps42 rfl rfl fun w0 ok0 => ?_
  repeat (first | refine v_w (t := 11) ?_ | refine v_w (t := 9) ?_ | refine awp_seq ?_ | refine then_n ?_ | refine then_r ?_ | refine then_x ?_ | refine block_n ?_ | refine block_r ?_ | refine block_x ?_ | refine u_y ?_ | refine loop_r ?_ | refine loop_x ?_ | refine awp_region ?_ | refine awpL_nil ?_ | refine awpQL_nil ?_ | refine awp_block ?_ | refine awp_skip ?_ | refine awp_exit ?_ | refine awp_label ?_ | refine u_dT ?_ | refine u_d ?_ | refine u_w (t := 9) ?_ | refine u_w (t := 11) ?_ | refine u_l ?_ | refine u_o ?_ | refine u_q ?_ | refine u_lr ?_ | refine u_qr ?_ | refine u_ls ?_ | refine u_qs ?_ | refine u_t ?_ | refine u_f ?_ | refine v_s ?_ | refine v_o ?_ | refine v_on ?_ | refine v_og ?_ | refine v_q ?_ | refine v_sr ?_ | refine v_k ?_ | refine m_nil ?_)
  refine awp_permTo [(11, .arr 42 1 ((lstC nx 0).map fun p => ints p.2)), (9, .arr 2 1 (ordD (lstC nx 0)))] (by as_aux_lemma => kernel_rfl) ?_
  refine awp_loop (fun i : Nat => i ≤ 10) (fun i => [(0, .d (.ptr (.agg [.int .i64 s, .int .i64 o, rows nx, rows ou]))), (4, .own 9), (5, .own 11), (6, .d (.int .i64 i))])
    (fun i => [(11, .arr 42 1 ((lstC nx i).map fun p => ints p.2)), (9, .arr 2 1 (ordD (lstC nx i)))]) (fun i => 10 - i) 0 (by omega) ?_ rfl ?_
  · ((repeat (first | exact trivial | (refine ⟨?_, ?_⟩; (focus (first | rfl | (simp [lk, argsS, args0]; done) | (simp [lk, argsS, args0]; omega)))))))
  · intro i hi
    have hl := hlen i
    have hlo : (ordD (lstC nx i)).length = (lstC nx i).length := by simp [ordD]
    by_cases hlt : i < (lstC nx i).length
    · have hp : (lstC nx i)[i]? = some (lstC nx i)[i] := List.getElem?_eq_getElem hlt
      have hpm : (lstC nx i)[i] ∈ lstC nx i := List.getElem_mem hlt
      have hnx := lstC_next hp
      have hlo0 := (hokk i).lt _ hpm
      have hwl := (hokk i).wl _ hpm
      have hok := letC_ok m (hokk i) hpm
      have hpre := letC_pre nx (lstC nx i)[i] (lstC nx i)
      generalize (lstC nx i)[i] = p at *
      repeat (first | refine awp_seq ?_ | refine then_n ?_ | refine then_r ?_ | refine then_x ?_ | refine block_n ?_ | refine block_r ?_ | refine block_x ?_ | refine u_y ?_ | refine loop_r ?_ | refine loop_x ?_ | refine awp_region ?_ | refine awpL_nil ?_ | refine awpQL_nil ?_ | refine awp_block ?_ | refine awp_skip ?_ | refine awp_exit ?_ | refine awp_label ?_ | refine u_dT ?_ | refine u_d ?_ | refine u_l ?_ | refine u_o ?_ | refine u_q ?_ | refine u_lr ?_ | refine u_qr ?_ | refine u_ls ?_ | refine u_qs ?_ | refine u_t ?_ | refine u_f ?_ | refine v_s ?_ | refine v_o ?_ | refine v_on ?_ | refine v_og ?_ | refine v_q ?_ | refine v_sr ?_ | refine v_k ?_ | refine m_nil ?_)
      refine awp_loop (fun k : Nat => k ≤ nx.length) (fun k => [(0, .d (.ptr (.agg [.int .i64 s, .int .i64 o, rows nx, rows ou]))), (4, .own 9), (5, .own 11), (6, .d (.int .i64 i)), (7, .d (.int .i64 k))])
        (fun k => [(11, .arr 42 1 ((letC nx p (lstC nx i) k).map fun p => ints p.2)), (9, .arr 2 1 (ordD (letC nx p (lstC nx i) k)))]) (fun k => nx.length - k) 0 (by omega) ?_ rfl ?_
      · ((repeat (first | exact trivial | (refine ⟨?_, ?_⟩; (focus (first | rfl | (simp [lk, argsS, args0]; done) | (simp [lk, argsS, args0]; omega)))))))
      · intro k hk
        have hokk2 := hok k hk
        have hlk := hokk2.len hs
        obtain ⟨t, ht⟩ := hpre k
        have hpk : (letC nx p (lstC nx i) k)[i]? = some p := by rw [ht, List.getElem?_append_left hlt]; exact hp
        by_cases hkn : k < nx.length
        · have hst : letC nx p (lstC nx i) (k + 1) = addP (letC nx p (lstC nx i) k) (nxC nx p.1 k) (p.2 ++ [(k : Int)]) := rfl
          obtain ⟨c1, c2, c3⟩ := nxC_ok m (c := p.1) hkn hlo0
          have hiL : i < (letC nx p (lstC nx i) k).length := by rw [ht, List.length_append]; omega
          generalize letC nx p (lstC nx i) k = L at *
          have hlL : (ordD L).length = L.length := by simp [ordD]
          have hlW : (L.map fun p => ints p.2).length = L.length := by simp
          have x1 := el_row2 (xs := nx) (l := (k : Int)) (by omega)
          have hr := hrl (k : Int) (by omega)
          have x2 := el_int2 (ns := row nx (k : Int)) (q := ((p.1 : Nat) : Int)) (by omega)
          have x3 : (ordD L)[(i : Int).toNat]? = some (.int .i64 (p.1 : Nat)) := by rw [Int.toNat_natCast]; simp [ordD, hpk]
          have x4 : (L.map fun p => ints p.2)[(i : Int).toNat]? = some (ints p.2) := by rw [Int.toNat_natCast]; simp [hpk]
          have hat : (row nx (k : Int)).getD ((p.1 : Nat) : Int).toNat 0 = ((nxC nx p.1 k : Nat) : Int) := by rw [c1]; rfl
          rw [hat] at x2
          generalize nxC nx p.1 k = c at *
          have e1 : AC Try.prog 58 [.lst (ordD L), .int .i64 c] (.bool (decide (c ∈ L.map (·.1)))) := by
            have := spec_l00HasE (L := ordI L) (n := ((c : Nat) : Int)) (by simp [ordI]; omega)
            rw [show (decide (((c : Nat) : Int) ∈ ordI L)) = decide (c ∈ L.map (·.1)) from decide_eq_decide.2 mem_ordI] at this
            rw [ordD_ints]
            exact this
          by_cases hm : c ∈ L.map (·.1)
          · rw [addP_old hm] at hst
            rw [decide_eq_true hm] at e1
            repeat (first | refine awp_seq ?_ | refine then_n ?_ | refine then_r ?_ | refine then_x ?_ | refine block_n ?_ | refine block_r ?_ | refine block_x ?_ | refine u_y ?_ | refine loop_r ?_ | refine loop_x ?_ | refine awp_region ?_ | refine awpL_nil ?_ | refine awpQL_nil ?_ | refine awp_block ?_ | refine awp_skip ?_ | refine awp_exit ?_ | refine awp_label ?_ | refine u_dT ?_ | refine u_d ?_ | ((first | apply c_l | apply c_q | apply c_lr | apply c_qr); (iterate 2 exact rfl); (focus (first | exact e1)); (iterate 2 exact rfl)) | (apply v_c; (iterate 4 exact rfl); (focus (first | exact e1)); (iterate 2 exact rfl)) | refine u_l ?_ | refine u_o ?_ | refine u_q ?_ | refine u_lr ?_ | refine u_qr ?_ | refine u_ls ?_ | refine u_qs ?_ | refine u_t ?_ | refine u_f ?_ | refine v_s ?_ | refine v_o ?_ | refine v_on ?_ | refine v_og ?_ | refine v_q ?_ | refine v_sr ?_ | refine v_k ?_ | refine m_nil ?_)
            refine loop_n (k + 1) (by omega) ?_ ?_ (by omega)
            · ((repeat (first | exact trivial | (refine ⟨?_, ?_⟩; (focus (first | rfl | (simp [lk, argsS, args0]; done) | (simp [lk, argsS, args0]; omega)))))))
            · rw [hst]
          · rw [addP_new hm] at hst
            rw [decide_eq_false hm] at e1
            have e2 := spec_l00OwnH (ns := p.2) (by omega)
            repeat (first | refine awp_seq ?_ | refine then_n ?_ | refine then_r ?_ | refine then_x ?_ | refine block_n ?_ | refine block_r ?_ | refine block_x ?_ | refine u_y ?_ | refine loop_r ?_ | refine loop_x ?_ | refine awp_region ?_ | refine awpL_nil ?_ | refine awpQL_nil ?_ | refine awp_block ?_ | refine awp_skip ?_ | refine awp_exit ?_ | refine awp_label ?_ | refine u_dT ?_ | refine u_d ?_ | ((first | apply c_l | apply c_q | apply c_lr | apply c_qr); (iterate 2 exact rfl); (focus (first | exact e1)); (iterate 2 exact rfl)) | (apply v_c; (iterate 4 exact rfl); (focus (first | exact e1)); (iterate 2 exact rfl)) | refine u_l ?_ | refine u_o ?_ | refine u_q ?_ | refine u_lr ?_ | refine u_qr ?_ | refine u_ls ?_ | refine u_qs ?_ | refine u_t ?_ | refine u_f ?_ | refine v_s ?_ | refine v_o ?_ | refine v_on ?_ | refine v_og ?_ | refine v_q ?_ | refine v_sr ?_ | refine v_k ?_ | refine m_nil ?_)
            refine hcl [] [(30000, 500)] e2 ?_
            (iterate 2 (refine u_l ?_))
            refine awpL_to rfl (by apply wo_append; (iterate 14 exact rfl); exact elsOk_ints [(k : Int)]; (simp; omega)) ?_
            refine awpL_freeze 500 rfl rfl ?_
            repeat (first | refine awp_seq ?_ | refine then_n ?_ | refine then_r ?_ | refine then_x ?_ | refine block_n ?_ | refine block_r ?_ | refine block_x ?_ | refine u_y ?_ | refine loop_r ?_ | refine loop_x ?_ | refine awp_region ?_ | refine awpL_nil ?_ | refine awpQL_nil ?_ | refine awp_block ?_ | refine awp_skip ?_ | refine awp_exit ?_ | refine awp_label ?_ | refine u_dT ?_ | refine u_d ?_ | refine u_l ?_ | refine u_o ?_ | refine u_q ?_ | refine u_lr ?_ | refine u_qr ?_ | refine u_ls ?_ | refine u_qs ?_ | refine u_t ?_ | refine u_f ?_ | refine v_s ?_ | refine v_o ?_ | refine v_on ?_ | refine v_og ?_ | refine v_q ?_ | refine v_sr ?_ | refine v_k ?_ | refine m_nil ?_)
            refine loop_n (k + 1) (by omega) ?_ ?_ (by omega)
            · ((repeat (first | exact trivial | (refine ⟨?_, ?_⟩; (focus (first | rfl | (simp [lk, argsS, args0]; done) | (simp [lk, argsS, args0]; omega)))))))
            · rw [hst, List.map_append, show ordD (L ++ [(c, p.2 ++ [(k : Int)])]) = ordD L ++ [.int .i64 (c : Nat)] by simp [ordD]]
              simp only [ints, List.map_cons, List.map_nil, List.map_append]
              rfl
        · have hke : k = nx.length := by omega
          subst hke
          repeat (first | refine awp_seq ?_ | refine then_n ?_ | refine then_r ?_ | refine then_x ?_ | refine block_n ?_ | refine block_r ?_ | refine block_x ?_ | refine u_y ?_ | refine loop_r ?_ | refine loop_x ?_ | refine awp_region ?_ | refine awpL_nil ?_ | refine awpQL_nil ?_ | refine awp_block ?_ | refine awp_skip ?_ | refine awp_exit ?_ | refine awp_label ?_ | refine u_dT ?_ | refine u_d ?_ | refine u_l ?_ | refine u_o ?_ | refine u_q ?_ | refine u_lr ?_ | refine u_qr ?_ | refine u_ls ?_ | refine u_qs ?_ | refine u_t ?_ | refine u_f ?_ | refine v_s ?_ | refine v_o ?_ | refine v_on ?_ | refine v_og ?_ | refine v_q ?_ | refine v_sr ?_ | refine v_k ?_ | refine m_nil ?_)
          refine loop_n (i + 1) (by omega) ?_ ?_ (by omega)
          · ((repeat (first | exact trivial | (refine ⟨?_, ?_⟩; (focus (first | rfl | (simp [lk, argsS, args0]; done) | (simp [lk, argsS, args0]; omega)))))))
          · rw [hnx]
    · have hce := covL_eq m hi (by omega)
      rw [hce] at hlo hlt ⊢
      repeat (first | refine awp_seq ?_ | refine then_n ?_ | refine then_r ?_ | refine then_x ?_ | refine block_n ?_ | refine block_r ?_ | refine block_x ?_ | refine u_y ?_ | refine loop_r ?_ | refine loop_x ?_ | refine awp_region ?_ | refine awpL_nil ?_ | refine awpQL_nil ?_ | refine awp_block ?_ | refine awp_skip ?_ | refine awp_exit ?_ | refine awp_label ?_ | refine u_dT ?_ | refine u_d ?_ | refine u_l ?_ | refine u_o ?_ | refine u_q ?_ | refine u_lr ?_ | refine u_qr ?_ | refine u_ls ?_ | refine u_qs ?_ | refine u_t ?_ | refine u_f ?_ | refine v_s ?_ | refine v_o ?_ | refine v_on ?_ | refine v_og ?_ | refine v_q ?_ | refine v_sr ?_ | refine v_k ?_ | refine m_nil ?_)
      (refine awp_ret ?_; (repeat (first | refine then_r ?_ | refine block_r ?_ | refine loop_r ?_)); apply ret_ok (.inr rfl); (focus exact rfl))
      rw [ordD_ints]
      show D.tup [.lst ((ordI (covL nx)).map (.int .i64)), .lst ((covL nx).map fun p => ints p.2)] = _
      rw [show (covL nx).map (fun p => ints p.2) = (wrd (covL nx)).map ints by simp [wrd]]
      rfl
end Go.Proofs.Ytfemhnmggobhjaa
