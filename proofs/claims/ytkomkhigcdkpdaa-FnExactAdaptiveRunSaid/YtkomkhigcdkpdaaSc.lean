/- Contracts of what is believed of a lit automaton, in the program. No condition. -/
import Derived.Test.YtkomkhigcdkpdaaSb
namespace Go.Proofs.Ytkomkhigcdkpdaa
open Go
attribute [local irreducible] awp awpL awpQL awpQ awpM pWalk Qt AC thenQ blockQ loopQ OpTo
set_option linter.unusedVariables false
set_option linter.unusedSimpArgs false
set_option maxHeartbeats 2000000
attribute [local irreducible] HC

/-- A valid lit automaton. -/
structure LV (s : Int) (nx : List (List Int)) (lp : List Int) : Prop where
  s1 : 1 ≤ s ∧ s ≤ 10
  n1 : 1 ≤ nx.length ∧ nx.length ≤ 3
  nx : Tbl s s nx
  lp : (lp.length : Int) = s
theorem lv_of {s : Int} {nx : List (List Int)} {lp : List Int} (h : litOk s nx lp = true) : LV s nx lp := by
  simp only [litOk, autoOk, inB, Bool.and_eq_true, decide_eq_true_eq] at h
  exact ⟨by omega, by omega, tbl_of h.1.2, h.2.1⟩

def lamp (lp : List Int) (q : Int) : Int := lp.getD q.toNat 0

theorem impl_step {s x : Int} {nx : List (List Int)} {lp : List Int} {f : Nat} (v : LV s nx lp) (hf : f < 18446744073709551616) (hs : ∀ q ∈ setN f, 0 ≤ q ∧ q < s) (hx : 0 ≤ x ∧ x < nx.length) :
    AC Try.prog 105 [.agg [.int .i64 s, rows nx], .int .u64 f, .int .i64 x] (.int .u64 (bitsL 0 ((setN f).map fun q => at2 nx x q))) := by
  have hset := impl_set hf
  have hL := setTo_length f 64
  have hL2 : (setN f).length ≤ 64 := hL
  generalize setN f = L at *
  have hle : (List.map (D.int IntKind.i64) L).length = L.length := by simp
  have r1 := el_row2 hx
  have hrow := tbl_row v.nx hx
  have hs1 := v.s1
  have hM : ∀ y ∈ L.map (fun q => at2 nx x q), 0 ≤ y ∧ y < 64 := fun y hy => by
    obtain ⟨q, hq, rfl⟩ := List.mem_map.1 hy
    have := tbl_at v.nx hx (hs q hq)
    omega
  refine ac_intro tabIs _ Try.func105 rfl rfl Try.ntmps105 rfl rfl fun w0 ok0 => ?_
  repeat (first | refine awp_seq ?_ | refine then_n ?_ | refine then_r ?_ | refine then_x ?_ | refine block_n ?_ | refine block_r ?_ | refine block_x ?_ | refine u_y ?_ | refine loop_r ?_ | refine loop_x ?_ | refine awp_region ?_ | refine awpL_nil ?_ | refine awpQL_nil ?_ | refine awp_block ?_ | refine awp_skip ?_ | refine awp_exit ?_ | refine awp_label ?_ | refine u_dT ?_ | refine u_d ?_ | ((first | apply c_l | apply c_q | apply c_lr | apply c_qr); (iterate 2 exact rfl); (focus (first | exact hset)); (iterate 2 exact rfl)) | (apply v_c; (iterate 4 exact rfl); (focus (first | exact hset)); (iterate 2 exact rfl)) | refine u_l ?_ | refine u_o ?_ | refine u_q ?_ | refine u_lr ?_ | refine u_qr ?_ | refine u_ls ?_ | refine u_qs ?_ | refine u_t ?_ | refine u_f ?_ | refine v_s ?_ | refine v_o ?_ | refine v_on ?_ | refine v_og ?_ | refine v_q ?_ | refine v_sr ?_ | refine v_k ?_ | refine m_nil ?_)
  refine awp_loop (fun k : Nat => k ≤ L.length) (fun k => [(2, .d (.int .i64 x)), (3, .d (.ptr (.agg [.int .i64 s, rows nx]))), (7, .d (.int .u64 (bitsL 0 ((L.map fun q => at2 nx x q).take k)))), (11, .d (ints L)), (12, .d (.int .i64 L.length)), (13, .d (.int .i64 k))]) (fun _ => []) (fun k => L.length - k) 0 (by omega) ?_ rfl ?_
  · refine ⟨rfl, rfl, ?_, rfl, ?_, rfl, trivial⟩ <;> simp [lk, args0, bitsL]
  · intro k hk
    have hlt0 := bitsL_lt ((L.map fun q => at2 nx x q).take k) 0 (by omega) fun y hy => by have := hM y (List.mem_of_mem_take hy); omega
    by_cases hlt : k < L.length
    · have he := el_int hlt
      have hq := hs _ (List.getElem_mem hlt)
      have q1 : (List.map (D.int .i64) (row nx x))[L[k].toNat]? = some (.int .i64 (at2 nx x L[k])) := el_int2 (ns := row nx x) (q := L[k]) (by omega)
      have hb := tbl_at v.nx hx hq
      have hb2 : 0 ≤ at2 nx x L[k] ∧ at2 nx x L[k] < 64 := by omega
      have h2 := two_lt hb2
      have hstep := bitsL_take (l := L.map fun q => at2 nx x q) (k := k) (by simpa using hlt)
      rw [List.getElem_map] at hstep
      repeat (first | refine awp_seq ?_ | refine then_n ?_ | refine then_r ?_ | refine then_x ?_ | refine block_n ?_ | refine block_r ?_ | refine block_x ?_ | refine u_y ?_ | refine loop_r ?_ | refine loop_x ?_ | refine awp_region ?_ | refine awpL_nil ?_ | refine awpQL_nil ?_ | refine awp_block ?_ | refine awp_skip ?_ | refine awp_exit ?_ | refine awp_label ?_ | refine u_dT ?_ | refine u_d ?_ | ((first | apply x_l | apply x_q | apply x_lr | apply x_qr); (focus (first | (apply qb_one; (iterate 2 (focus (first | exact rfl | (first | assumption | omega | (simp; omega) | (simp; done) | rfl))))) | (apply qb_or; (iterate 4 (focus (first | exact rfl | (first | assumption | omega | (simp; omega) | (simp; done) | rfl))))))); exact rfl) | (apply v_x; (iterate 2 exact rfl); (focus (intro ok0 nw hle; (first | (apply qb_one; (iterate 2 (focus (first | exact rfl | (first | assumption | omega | (simp; omega) | (simp; done) | rfl))))) | (apply qb_or; (iterate 4 (focus (first | exact rfl | (first | assumption | omega | (simp; omega) | (simp; done) | rfl)))))))); (iterate 2 exact rfl)) | refine u_l ?_ | refine u_o ?_ | refine u_q ?_ | refine u_lr ?_ | refine u_qr ?_ | refine u_ls ?_ | refine u_qs ?_ | refine u_t ?_ | refine u_f ?_ | refine v_s ?_ | refine v_o ?_ | refine v_on ?_ | refine v_og ?_ | refine v_q ?_ | refine v_sr ?_ | refine v_k ?_ | refine m_nil ?_)
      refine loop_n (k + 1) (by omega) ?_ rfl (by omega)
      refine ⟨rfl, rfl, ?_, rfl, rfl, ?_, trivial⟩
      · simp only [lk, hstep, two_eq, bor_eq, Nat.reduceEqDiff, if_false, if_true]
      · simp [lk]
    · have : k = L.length := by omega
      subst this
      repeat (first | refine awp_seq ?_ | refine then_n ?_ | refine then_r ?_ | refine then_x ?_ | refine block_n ?_ | refine block_r ?_ | refine block_x ?_ | refine u_y ?_ | refine loop_r ?_ | refine loop_x ?_ | refine awp_region ?_ | refine awpL_nil ?_ | refine awpQL_nil ?_ | refine awp_block ?_ | refine awp_skip ?_ | refine awp_exit ?_ | refine awp_label ?_ | refine u_dT ?_ | refine u_d ?_ | refine u_l ?_ | refine u_o ?_ | refine u_q ?_ | refine u_lr ?_ | refine u_qr ?_ | refine u_ls ?_ | refine u_qs ?_ | refine u_t ?_ | refine u_f ?_ | refine v_s ?_ | refine v_o ?_ | refine v_on ?_ | refine v_og ?_ | refine v_q ?_ | refine v_sr ?_ | refine v_k ?_ | refine m_nil ?_)
      (refine awp_ret ?_; (repeat (first | refine then_r ?_ | refine block_r ?_ | refine loop_r ?_)); apply ret_ok (.inr rfl); (focus exact rfl))
      rw [List.take_of_length_le (by simp)]

theorem filter_take {P : Int → Bool} {L : List Int} {k : Nat} (hk : k < L.length) : (L.take (k + 1)).filter P = (L.take k).filter P ++ if P L[k] then [L[k]] else [] := by
  rw [List.take_succ_eq_append_getElem hk, List.filter_append]
  congr 1
  cases h : P L[k] <;> simp [h]
theorem bitsL_append (a b : List Int) (acc : Nat) : bitsL acc (a ++ b) = bitsL (bitsL acc a) b := by
  unfold bitsL
  rw [List.foldl_append]

theorem impl_lampSet {s x : Int} {nx : List (List Int)} {lp : List Int} {f : Nat} (v : LV s nx lp) (hf : f < 18446744073709551616) (hs : ∀ q ∈ setN f, 0 ≤ q ∧ q < s) :
    AC Try.prog 104 [.agg [.int .i64 s, rows nx, ints lp], .int .u64 f, .int .i64 x] (.int .u64 (bitsL 0 ((setN f).filter fun q => decide (lamp lp q = x)))) := by
  have hset := impl_set hf
  have hL2 : (setN f).length ≤ 64 := setTo_length f 64
  generalize setN f = L at *
  have hle : (List.map (D.int IntKind.i64) L).length = L.length := by simp
  have hs1 := v.s1
  have hlp := v.lp
  refine ac_intro tabIs _ Try.func104 rfl rfl Try.ntmps104 rfl rfl fun w0 ok0 => ?_
  repeat (first | refine awp_seq ?_ | refine then_n ?_ | refine then_r ?_ | refine then_x ?_ | refine block_n ?_ | refine block_r ?_ | refine block_x ?_ | refine u_y ?_ | refine loop_r ?_ | refine loop_x ?_ | refine awp_region ?_ | refine awpL_nil ?_ | refine awpQL_nil ?_ | refine awp_block ?_ | refine awp_skip ?_ | refine awp_exit ?_ | refine awp_label ?_ | refine u_dT ?_ | refine u_d ?_ | ((first | apply c_l | apply c_q | apply c_lr | apply c_qr); (iterate 2 exact rfl); (focus (first | exact hset)); (iterate 2 exact rfl)) | (apply v_c; (iterate 4 exact rfl); (focus (first | exact hset)); (iterate 2 exact rfl)) | refine u_l ?_ | refine u_o ?_ | refine u_q ?_ | refine u_lr ?_ | refine u_qr ?_ | refine u_ls ?_ | refine u_qs ?_ | refine u_t ?_ | refine u_f ?_ | refine v_s ?_ | refine v_o ?_ | refine v_on ?_ | refine v_og ?_ | refine v_q ?_ | refine v_sr ?_ | refine v_k ?_ | refine m_nil ?_)
  refine awp_loop (fun k : Nat => k ≤ L.length) (fun k => [(2, .d (.int .i64 x)), (3, .d (.ptr (.agg [.int .i64 s, rows nx, ints lp]))), (7, .d (.int .u64 (bitsL 0 ((L.take k).filter fun q => decide (lamp lp q = x))))), (11, .d (ints L)), (12, .d (.int .i64 L.length)), (13, .d (.int .i64 k))]) (fun _ => []) (fun k => L.length - k) 0 (by omega) ?_ rfl ?_
  · refine ⟨rfl, rfl, ?_, rfl, ?_, rfl, trivial⟩ <;> simp [lk, args0, bitsL]
  · intro k hk
    have hlt0 := bitsL_lt ((L.take k).filter fun q => decide (lamp lp q = x)) 0 (by omega) fun y hy => by have := hs y (List.mem_of_mem_take (List.mem_filter.1 hy).1); omega
    by_cases hlt : k < L.length
    · have he := el_int hlt
      have hq := hs _ (List.getElem_mem hlt)
      have q1 : (List.map (D.int .i64) lp)[L[k].toNat]? = some (.int .i64 (lamp lp L[k])) := el_int2 (ns := lp) (q := L[k]) (by omega)
      have hb2 : 0 ≤ L[k] ∧ L[k] < 64 := by omega
      have h2 := two_lt hb2
      have hstep := filter_take (P := fun q => decide (lamp lp q = x)) hlt
      by_cases hc : lamp lp L[k] = x
      · rw [if_pos (by simpa using hc)] at hstep
        repeat (first | refine awp_seq ?_ | refine then_n ?_ | refine then_r ?_ | refine then_x ?_ | refine block_n ?_ | refine block_r ?_ | refine block_x ?_ | refine u_y ?_ | refine loop_r ?_ | refine loop_x ?_ | refine awp_region ?_ | refine awpL_nil ?_ | refine awpQL_nil ?_ | refine awp_block ?_ | refine awp_skip ?_ | refine awp_exit ?_ | refine awp_label ?_ | refine u_dT ?_ | refine u_d ?_ | ((first | apply x_l | apply x_q | apply x_lr | apply x_qr); (focus (first | (apply qb_one; (iterate 2 (focus (first | exact rfl | (first | assumption | omega | (simp; omega) | (simp; done) | rfl))))) | (apply qb_or; (iterate 4 (focus (first | exact rfl | (first | assumption | omega | (simp; omega) | (simp; done) | rfl))))))); exact rfl) | (apply v_x; (iterate 2 exact rfl); (focus (intro ok0 nw hle; (first | (apply qb_one; (iterate 2 (focus (first | exact rfl | (first | assumption | omega | (simp; omega) | (simp; done) | rfl))))) | (apply qb_or; (iterate 4 (focus (first | exact rfl | (first | assumption | omega | (simp; omega) | (simp; done) | rfl)))))))); (iterate 2 exact rfl)) | refine u_l ?_ | refine u_o ?_ | refine u_q ?_ | refine u_lr ?_ | refine u_qr ?_ | refine u_ls ?_ | refine u_qs ?_ | refine u_t ?_ | refine u_f ?_ | refine v_s ?_ | refine v_o ?_ | refine v_on ?_ | refine v_og ?_ | refine v_q ?_ | refine v_sr ?_ | refine v_k ?_ | refine m_nil ?_)
        refine loop_n (k + 1) (by omega) ?_ rfl (by omega)
        refine ⟨rfl, rfl, ?_, rfl, rfl, ?_, trivial⟩
        · simp only [lk, hstep, two_eq, bor_eq, Nat.reduceEqDiff, if_false, if_true, bitsL_append]
          rfl
        · simp [lk]
      · rw [if_neg (by simpa using hc)] at hstep
        repeat (first | refine awp_seq ?_ | refine then_n ?_ | refine then_r ?_ | refine then_x ?_ | refine block_n ?_ | refine block_r ?_ | refine block_x ?_ | refine u_y ?_ | refine loop_r ?_ | refine loop_x ?_ | refine awp_region ?_ | refine awpL_nil ?_ | refine awpQL_nil ?_ | refine awp_block ?_ | refine awp_skip ?_ | refine awp_exit ?_ | refine awp_label ?_ | refine u_dT ?_ | refine u_d ?_ | ((first | apply x_l | apply x_q | apply x_lr | apply x_qr); (focus (first | (apply qb_one; (iterate 2 (focus (first | exact rfl | (first | assumption | omega | (simp; omega) | (simp; done) | rfl))))) | (apply qb_or; (iterate 4 (focus (first | exact rfl | (first | assumption | omega | (simp; omega) | (simp; done) | rfl))))))); exact rfl) | (apply v_x; (iterate 2 exact rfl); (focus (intro ok0 nw hle; (first | (apply qb_one; (iterate 2 (focus (first | exact rfl | (first | assumption | omega | (simp; omega) | (simp; done) | rfl))))) | (apply qb_or; (iterate 4 (focus (first | exact rfl | (first | assumption | omega | (simp; omega) | (simp; done) | rfl)))))))); (iterate 2 exact rfl)) | refine u_l ?_ | refine u_o ?_ | refine u_q ?_ | refine u_lr ?_ | refine u_qr ?_ | refine u_ls ?_ | refine u_qs ?_ | refine u_t ?_ | refine u_f ?_ | refine v_s ?_ | refine v_o ?_ | refine v_on ?_ | refine v_og ?_ | refine v_q ?_ | refine v_sr ?_ | refine v_k ?_ | refine m_nil ?_)
        refine loop_n (k + 1) (by omega) ?_ rfl (by omega)
        refine ⟨rfl, rfl, ?_, rfl, rfl, ?_, trivial⟩
        · simp only [lk, hstep, List.append_nil, Nat.reduceEqDiff, if_false, if_true]
        · simp [lk]
    · have : k = L.length := by omega
      subst this
      repeat (first | refine awp_seq ?_ | refine then_n ?_ | refine then_r ?_ | refine then_x ?_ | refine block_n ?_ | refine block_r ?_ | refine block_x ?_ | refine u_y ?_ | refine loop_r ?_ | refine loop_x ?_ | refine awp_region ?_ | refine awpL_nil ?_ | refine awpQL_nil ?_ | refine awp_block ?_ | refine awp_skip ?_ | refine awp_exit ?_ | refine awp_label ?_ | refine u_dT ?_ | refine u_d ?_ | refine u_l ?_ | refine u_o ?_ | refine u_q ?_ | refine u_lr ?_ | refine u_qr ?_ | refine u_ls ?_ | refine u_qs ?_ | refine u_t ?_ | refine u_f ?_ | refine v_s ?_ | refine v_o ?_ | refine v_on ?_ | refine v_og ?_ | refine v_q ?_ | refine v_sr ?_ | refine v_k ?_ | refine m_nil ?_)
      (refine awp_ret ?_; (repeat (first | refine then_r ?_ | refine block_r ?_ | refine loop_r ?_)); apply ret_ok (.inr rfl); (focus exact rfl))
      rw [List.take_of_length_le (by simp)]

/-- What is believed behind a letter and a lamp, as bits. -/
def belB (nx : List (List Int)) (lp : List Int) (f : Nat) (x y : Int) : Nat := bitsL 0 ((setN (bitsL 0 ((setN f).map fun q => at2 nx x q))).filter fun q => decide (lamp lp q = y))

theorem step_mem {s x : Int} {nx : List (List Int)} {lp : List Int} {L : List Int} (v : LV s nx lp) (hs : ∀ q ∈ L, 0 ≤ q ∧ q < s) (hx : 0 ≤ x ∧ x < nx.length) {q : Int} : q ∈ setN (bitsL 0 (L.map fun q => at2 nx x q)) ↔ q ∈ L.map fun q => at2 nx x q :=
  mem_bits fun y hy => by
    obtain ⟨q, hq, rfl⟩ := List.mem_map.1 hy
    have := tbl_at v.nx hx (hs q hq)
    have := v.s1
    omega
theorem step_lt {s x : Int} {nx : List (List Int)} {lp : List Int} {L : List Int} (v : LV s nx lp) (hs : ∀ q ∈ L, 0 ≤ q ∧ q < s) (hx : 0 ≤ x ∧ x < nx.length) : ∀ q ∈ L.map (fun q => at2 nx x q), 0 ≤ q ∧ q < s := fun y hy => by
  obtain ⟨q, hq, rfl⟩ := List.mem_map.1 hy
  exact tbl_at v.nx hx (hs q hq)

theorem impl_believed {s x y : Int} {nx : List (List Int)} {lp : List Int} {f : Nat} (v : LV s nx lp) (hf : f < 18446744073709551616) (hs : ∀ q ∈ setN f, 0 ≤ q ∧ q < s) (hx : 0 ≤ x ∧ x < nx.length) :
    AC Try.prog 57 [.agg [.int .i64 s, rows nx, ints lp], .int .u64 f, .int .i64 x, .int .i64 y] (.int .u64 (belB nx lp f x y)) := by
  have e1 := impl_step v hf hs hx
  have hlt := step_lt v hs hx
  have e2 := impl_lampSet (x := y) (f := bitsL 0 ((setN f).map fun q => at2 nx x q)) v (bitsL_lt _ 0 (by omega) fun q hq => by have := hlt q hq; have := v.s1; omega) fun q hq => hlt q ((step_mem v hs hx).1 hq)
  unfold belB
  generalize bitsL 0 ((setN f).map fun q => at2 nx x q) = g at *
  refine ac_intro tabIs _ Try.func57 rfl rfl Try.ntmps57 rfl rfl fun w0 ok0 => ?_
  repeat (first | refine awp_seq ?_ | refine then_n ?_ | refine then_r ?_ | refine then_x ?_ | refine block_n ?_ | refine block_r ?_ | refine block_x ?_ | refine u_y ?_ | refine loop_r ?_ | refine loop_x ?_ | refine awp_region ?_ | refine awpL_nil ?_ | refine awpQL_nil ?_ | refine awp_block ?_ | refine awp_skip ?_ | refine awp_exit ?_ | refine awp_label ?_ | refine u_dT ?_ | refine u_d ?_ | ((first | apply c_l | apply c_q | apply c_lr | apply c_qr); (iterate 2 exact rfl); (focus (first | exact e1 | exact e2)); (iterate 2 exact rfl)) | (apply v_c; (iterate 4 exact rfl); (focus (first | exact e1 | exact e2)); (iterate 2 exact rfl)) | refine u_l ?_ | refine u_o ?_ | refine u_q ?_ | refine u_lr ?_ | refine u_qr ?_ | refine u_ls ?_ | refine u_qs ?_ | refine u_t ?_ | refine u_f ?_ | refine v_s ?_ | refine v_o ?_ | refine v_on ?_ | refine v_og ?_ | refine v_q ?_ | refine v_sr ?_ | refine v_k ?_ | refine m_nil ?_)
  (refine awp_ret ?_; (repeat (first | refine then_r ?_ | refine block_r ?_ | refine loop_r ?_)); apply ret_ok (.inr rfl); (focus exact rfl))
  rfl

/-! ### Is it a set? -/

def risAt (l : List Int) (hi : Int) (k : Nat) : Bool := inB (l.getD k 0) 0 hi && (decide (k = 0) || decide (l.getD (k - 1) 0 < l.getD k 0))
def risB (l : List Int) (hi : Int) : Bool := (List.range l.length).all (risAt l hi)

theorem risB_false {l : List Int} {hi : Int} {k : Nat} (hk : k < l.length) (h : risAt l hi k = false) : risB l hi = false := by
  unfold risB
  rw [List.all_eq_false]
  exact ⟨k, by simpa using hk, by simp [h]⟩
theorem risB_true {l : List Int} {hi : Int} (h : ∀ k, k < l.length → risAt l hi k = true) : risB l hi = true := by
  unfold risB
  rw [List.all_eq_true]
  intro k hk
  exact h k (by simpa using hk)

theorem ris_of {l : List Int} {hi : Int} (h : risB l hi = true) : (∀ q ∈ l, 0 ≤ q ∧ q ≤ hi) ∧ l.Pairwise (· < ·) := by
  have hk : ∀ k (hk : k < l.length), (0 ≤ l[k] ∧ l[k] ≤ hi) ∧ ∀ (h0 : k ≠ 0), l[k - 1]'(by omega) < l[k] := fun k hk => by
    unfold risB at h
    rw [List.all_eq_true] at h
    have := h k (by simpa using hk)
    simp only [risAt, inB, Bool.and_eq_true, Bool.or_eq_true, decide_eq_true_eq, List.getD_eq_getElem?_getD] at this
    rw [List.getElem?_eq_getElem hk, List.getElem?_eq_getElem (show k - 1 < l.length by omega)] at this
    simp only [Option.getD_some] at this
    exact ⟨this.1, fun h0 => this.2.resolve_left h0⟩
  refine ⟨fun q hq => ?_, List.pairwise_iff_getElem.2 fun i j hi' hj' hij => ?_⟩
  · obtain ⟨k, hk', rfl⟩ := List.getElem_of_mem hq
    exact (hk k hk').1
  · induction j with
    | zero => omega
    | succ j ih =>
      have h1 := (hk (j + 1) hj').2 (by omega)
      simp only [Nat.add_sub_cancel] at h1
      by_cases e : i = j
      · subst e; exact h1
      · have := ih (by omega) (by omega)
        omega

theorem getD_get {l : List Int} {k : Nat} (h : k < l.length) : l.getD k 0 = l[k] := by simp [List.getD_eq_getElem?_getD, h]

theorem impl_isSet {l : List Int} {b : Int} (hb : 0 ≤ b ∧ b ≤ 100) (hn : l.length ≤ 9223372036854775807) : AC Try.prog 98 [ints l, .int .i64 b] (.bool (risB l (b - 1))) := by
  have hle : (List.map (D.int IntKind.i64) l).length = l.length := by simp
  refine ac_intro tabIs _ Try.func98 rfl rfl Try.ntmps98 rfl rfl fun w0 ok0 => ?_
  repeat (first | refine awp_seq ?_ | refine then_n ?_ | refine then_r ?_ | refine then_x ?_ | refine block_n ?_ | refine block_r ?_ | refine block_x ?_ | refine u_y ?_ | refine loop_r ?_ | refine loop_x ?_ | refine awp_region ?_ | refine awpL_nil ?_ | refine awpQL_nil ?_ | refine awp_block ?_ | refine awp_skip ?_ | refine awp_exit ?_ | refine awp_label ?_ | refine u_dT ?_ | refine u_d ?_ | refine u_l ?_ | refine u_o ?_ | refine u_q ?_ | refine u_lr ?_ | refine u_qr ?_ | refine u_ls ?_ | refine u_qs ?_ | refine u_t ?_ | refine u_f ?_ | refine v_s ?_ | refine v_o ?_ | refine v_on ?_ | refine v_og ?_ | refine v_q ?_ | refine v_sr ?_ | refine v_k ?_ | refine m_nil ?_)
  refine awp_loop (fun k : Nat => k ≤ l.length ∧ ∀ j, j < k → risAt l (b - 1) j = true) (fun k => [(0, .d (ints l)), (1, .d (.int .i64 b)), (7, .d (ints l)), (8, .d (.int .i64 l.length)), (9, .d (.int .i64 k))]) (fun _ => []) (fun k => l.length - k) 0 ⟨by omega, by simp⟩ ?_ rfl ?_
  · ((repeat (first | exact trivial | (refine ⟨?_, ?_⟩; (focus (first | rfl | (simp [lk, argsS, args0]; done) | (simp [lk, argsS, args0]; omega)))))))
  · rintro k ⟨hk, hall⟩
    by_cases hlt : k < l.length
    · have he := el_int hlt
      have e1 : l.getD k 0 = l[k] := getD_get hlt
      have hw : AC Try.prog 65 [.int .i64 l[k], .int .i64 0, .int .i64 (b - 1)] (.bool (inB l[k] 0 (b - 1))) := impl_within
      by_cases hin : inB l[k] 0 (b - 1) = true
      · rw [hin] at hw
        by_cases h0 : k = 0
        · subst h0
          have hc : risAt l (b - 1) 0 = true := by unfold risAt; rw [e1, hin]; rfl
          repeat (first | refine awp_seq ?_ | refine then_n ?_ | refine then_r ?_ | refine then_x ?_ | refine block_n ?_ | refine block_r ?_ | refine block_x ?_ | refine u_y ?_ | refine loop_r ?_ | refine loop_x ?_ | refine awp_region ?_ | refine awpL_nil ?_ | refine awpQL_nil ?_ | refine awp_block ?_ | refine awp_skip ?_ | refine awp_exit ?_ | refine awp_label ?_ | refine u_dT ?_ | refine u_d ?_ | ((first | apply c_l | apply c_q | apply c_lr | apply c_qr); (iterate 2 exact rfl); (focus (first | exact hw)); (iterate 2 exact rfl)) | (apply v_c; (iterate 4 exact rfl); (focus (first | exact hw)); (iterate 2 exact rfl)) | refine u_l ?_ | refine u_o ?_ | refine u_q ?_ | refine u_lr ?_ | refine u_qr ?_ | refine u_ls ?_ | refine u_qs ?_ | refine u_t ?_ | refine u_f ?_ | refine v_s ?_ | refine v_o ?_ | refine v_on ?_ | refine v_og ?_ | refine v_q ?_ | refine v_sr ?_ | refine v_k ?_ | refine m_nil ?_)
          refine loop_n 1 ⟨by omega, fun j hj => (by omega : j = 0) ▸ hc⟩ ?_ rfl (by omega)
          ((repeat (first | exact trivial | (refine ⟨?_, ?_⟩; (focus (first | rfl | (simp [lk, argsS, args0]; done) | (simp [lk, argsS, args0]; omega)))))))
        · have e2 : l.getD (k - 1) 0 = l[k - 1] := getD_get (by omega)
          have he2 : (List.map (D.int .i64) l)[((k : Int) - 1).toNat]? = some (.int .i64 l[k - 1]) := by
            have : ((k : Int) - 1).toNat = k - 1 := by omega
            rw [this]
            simp
          by_cases hc : l[k - 1] < l[k]
          · have hc2 : risAt l (b - 1) k = true := by unfold risAt; rw [e1, e2, hin]; simp [hc]
            repeat (first | refine awp_seq ?_ | refine then_n ?_ | refine then_r ?_ | refine then_x ?_ | refine block_n ?_ | refine block_r ?_ | refine block_x ?_ | refine u_y ?_ | refine loop_r ?_ | refine loop_x ?_ | refine awp_region ?_ | refine awpL_nil ?_ | refine awpQL_nil ?_ | refine awp_block ?_ | refine awp_skip ?_ | refine awp_exit ?_ | refine awp_label ?_ | refine u_dT ?_ | refine u_d ?_ | ((first | apply c_l | apply c_q | apply c_lr | apply c_qr); (iterate 2 exact rfl); (focus (first | exact hw)); (iterate 2 exact rfl)) | (apply v_c; (iterate 4 exact rfl); (focus (first | exact hw)); (iterate 2 exact rfl)) | refine u_l ?_ | refine u_o ?_ | refine u_q ?_ | refine u_lr ?_ | refine u_qr ?_ | refine u_ls ?_ | refine u_qs ?_ | refine u_t ?_ | refine u_f ?_ | refine v_s ?_ | refine v_o ?_ | refine v_on ?_ | refine v_og ?_ | refine v_q ?_ | refine v_sr ?_ | refine v_k ?_ | refine m_nil ?_)
            (first | apply awpL_split | apply awpQL_split); (iterate 3 (focus exact rfl))
            · intro hb1
              repeat (first | refine awp_seq ?_ | refine then_n ?_ | refine then_r ?_ | refine then_x ?_ | refine block_n ?_ | refine block_r ?_ | refine block_x ?_ | refine u_y ?_ | refine loop_r ?_ | refine loop_x ?_ | refine awp_region ?_ | refine awpL_nil ?_ | refine awpQL_nil ?_ | refine awp_block ?_ | refine awp_skip ?_ | refine awp_exit ?_ | refine awp_label ?_ | refine u_dT ?_ | refine u_d ?_ | ((first | apply c_l | apply c_q | apply c_lr | apply c_qr); (iterate 2 exact rfl); (focus (first | exact hw)); (iterate 2 exact rfl)) | (apply v_c; (iterate 4 exact rfl); (focus (first | exact hw)); (iterate 2 exact rfl)) | refine u_l ?_ | refine u_o ?_ | refine u_q ?_ | refine u_lr ?_ | refine u_qr ?_ | refine u_ls ?_ | refine u_qs ?_ | refine u_t ?_ | refine u_f ?_ | refine v_s ?_ | refine v_o ?_ | refine v_on ?_ | refine v_og ?_ | refine v_q ?_ | refine v_sr ?_ | refine v_k ?_ | refine m_nil ?_)
              refine loop_n (k + 1) ⟨by omega, fun j hj => ?_⟩ ?_ rfl (by omega)
              · by_cases hj2 : j = k
                · rw [hj2]; exact hc2
                · exact hall j (by omega)
              · ((repeat (first | exact trivial | (refine ⟨?_, ?_⟩; (focus (first | rfl | (simp [lk, argsS, args0]; done) | (simp [lk, argsS, args0]; omega)))))))
            · intro hb1
              simp at hb1
              omega
          · have hc2 : risAt l (b - 1) k = false := by unfold risAt; rw [e1, e2, hin]; simp [hc, h0]
            repeat (first | refine awp_seq ?_ | refine then_n ?_ | refine then_r ?_ | refine then_x ?_ | refine block_n ?_ | refine block_r ?_ | refine block_x ?_ | refine u_y ?_ | refine loop_r ?_ | refine loop_x ?_ | refine awp_region ?_ | refine awpL_nil ?_ | refine awpQL_nil ?_ | refine awp_block ?_ | refine awp_skip ?_ | refine awp_exit ?_ | refine awp_label ?_ | refine u_dT ?_ | refine u_d ?_ | ((first | apply c_l | apply c_q | apply c_lr | apply c_qr); (iterate 2 exact rfl); (focus (first | exact hw)); (iterate 2 exact rfl)) | (apply v_c; (iterate 4 exact rfl); (focus (first | exact hw)); (iterate 2 exact rfl)) | refine u_l ?_ | refine u_o ?_ | refine u_q ?_ | refine u_lr ?_ | refine u_qr ?_ | refine u_ls ?_ | refine u_qs ?_ | refine u_t ?_ | refine u_f ?_ | refine v_s ?_ | refine v_o ?_ | refine v_on ?_ | refine v_og ?_ | refine v_q ?_ | refine v_sr ?_ | refine v_k ?_ | refine m_nil ?_)
            (first | apply awpL_split | apply awpQL_split); (iterate 3 (focus exact rfl))
            · intro hb1
              repeat (first | refine awp_seq ?_ | refine then_n ?_ | refine then_r ?_ | refine then_x ?_ | refine block_n ?_ | refine block_r ?_ | refine block_x ?_ | refine u_y ?_ | refine loop_r ?_ | refine loop_x ?_ | refine awp_region ?_ | refine awpL_nil ?_ | refine awpQL_nil ?_ | refine awp_block ?_ | refine awp_skip ?_ | refine awp_exit ?_ | refine awp_label ?_ | refine u_dT ?_ | refine u_d ?_ | ((first | apply c_l | apply c_q | apply c_lr | apply c_qr); (iterate 2 exact rfl); (focus (first | exact hw)); (iterate 2 exact rfl)) | (apply v_c; (iterate 4 exact rfl); (focus (first | exact hw)); (iterate 2 exact rfl)) | refine u_l ?_ | refine u_o ?_ | refine u_q ?_ | refine u_lr ?_ | refine u_qr ?_ | refine u_ls ?_ | refine u_qs ?_ | refine u_t ?_ | refine u_f ?_ | refine v_s ?_ | refine v_o ?_ | refine v_on ?_ | refine v_og ?_ | refine v_q ?_ | refine v_sr ?_ | refine v_k ?_ | refine m_nil ?_)
              (refine awp_ret ?_; (repeat (first | refine then_r ?_ | refine block_r ?_ | refine loop_r ?_)); apply ret_ok (.inr rfl); (focus exact rfl))
              rw [risB_false hlt hc2]
            · intro hb1
              simp at hb1
              omega
      · have hin' : inB l[k] 0 (b - 1) = false := by simpa using hin
        rw [hin'] at hw
        have hc2 : risAt l (b - 1) k = false := by unfold risAt; rw [e1, hin']; rfl
        repeat (first | refine awp_seq ?_ | refine then_n ?_ | refine then_r ?_ | refine then_x ?_ | refine block_n ?_ | refine block_r ?_ | refine block_x ?_ | refine u_y ?_ | refine loop_r ?_ | refine loop_x ?_ | refine awp_region ?_ | refine awpL_nil ?_ | refine awpQL_nil ?_ | refine awp_block ?_ | refine awp_skip ?_ | refine awp_exit ?_ | refine awp_label ?_ | refine u_dT ?_ | refine u_d ?_ | ((first | apply c_l | apply c_q | apply c_lr | apply c_qr); (iterate 2 exact rfl); (focus (first | exact hw)); (iterate 2 exact rfl)) | (apply v_c; (iterate 4 exact rfl); (focus (first | exact hw)); (iterate 2 exact rfl)) | refine u_l ?_ | refine u_o ?_ | refine u_q ?_ | refine u_lr ?_ | refine u_qr ?_ | refine u_ls ?_ | refine u_qs ?_ | refine u_t ?_ | refine u_f ?_ | refine v_s ?_ | refine v_o ?_ | refine v_on ?_ | refine v_og ?_ | refine v_q ?_ | refine v_sr ?_ | refine v_k ?_ | refine m_nil ?_)
        (refine awp_ret ?_; (repeat (first | refine then_r ?_ | refine block_r ?_ | refine loop_r ?_)); apply ret_ok (.inr rfl); (focus exact rfl))
        rw [risB_false hlt hc2]
    · have : k = l.length := by omega
      subst this
      repeat (first | refine awp_seq ?_ | refine then_n ?_ | refine then_r ?_ | refine then_x ?_ | refine block_n ?_ | refine block_r ?_ | refine block_x ?_ | refine u_y ?_ | refine loop_r ?_ | refine loop_x ?_ | refine awp_region ?_ | refine awpL_nil ?_ | refine awpQL_nil ?_ | refine awp_block ?_ | refine awp_skip ?_ | refine awp_exit ?_ | refine awp_label ?_ | refine u_dT ?_ | refine u_d ?_ | refine u_l ?_ | refine u_o ?_ | refine u_q ?_ | refine u_lr ?_ | refine u_qr ?_ | refine u_ls ?_ | refine u_qs ?_ | refine u_t ?_ | refine u_f ?_ | refine v_s ?_ | refine v_o ?_ | refine v_on ?_ | refine v_og ?_ | refine v_q ?_ | refine v_sr ?_ | refine v_k ?_ | refine m_nil ?_)
      (refine awp_ret ?_; (repeat (first | refine then_r ?_ | refine block_r ?_ | refine loop_r ?_)); apply ret_ok (.inr rfl); (focus exact rfl))
      rw [risB_true hall]

end Go.Proofs.Ytkomkhigcdkpdaa
