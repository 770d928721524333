/- Plain facts of a machine's mutants. No condition. -/
import Derived.Test.YtkaffmojojnhhaaMa
import Derived.Test.YtkaffmojojnhhaaPa
import Derived.Test.YtkaffmojojnhhaaMc
import Derived.Test.YtkaffmojojnhhaaFwU
namespace Go.Proofs.Ytkaffmojojnhhaa
open Go
attribute [local irreducible] awp awpL awpQL awpQ awpM pWalk Qt AC thenQ blockQ loopQ OpTo
set_option linter.unusedVariables false
set_option linter.unusedSimpArgs false
set_option maxHeartbeats 2000000
attribute [local irreducible] HC

/-- The number i of those that are not x. -/
def othr (i x : Int) : Int := if x ≤ i then i + 1 else i
def set2 (xs : List (List Int)) (l q v : Int) : List (List Int) := xs.set l.toNat ((row xs l).set q.toNat v)
theorem set2_length (xs : List (List Int)) (l q v : Int) : (set2 xs l q v).length = xs.length := by simp [set2]
theorem tbl_set2 {s hi : Int} {xs : List (List Int)} (h : Tbl s hi xs) {l q v : Int} (hl : 0 ≤ l ∧ l < xs.length) (hv : 0 ≤ v ∧ v < hi) : Tbl s hi (set2 xs l q v) := fun ns hn => by
  rcases List.mem_or_eq_of_mem_set hn with hn | rfl
  · exact h ns hn
  · have hr := h _ (row_mem hl)
    refine ⟨by simpa using hr.1, fun n hm => ?_⟩
    rcases List.mem_or_eq_of_mem_set hm with hm | rfl
    · exact hr.2 n hm
    · exact hv

/-- The mutant k: the tables of the next states and of the outputs. -/
def mutX (s o : Int) (nx ou : List (List Int)) (k : Int) : List (List Int) × List (List Int) :=
  if k % (o - 1 + s - 1) < o - 1 then (nx, set2 ou (k / (o - 1 + s - 1) / s) (k / (o - 1 + s - 1) % s) (othr (k % (o - 1 + s - 1)) (at2 ou (k / (o - 1 + s - 1) / s) (k / (o - 1 + s - 1) % s))))
  else (set2 nx (k / (o - 1 + s - 1) / s) (k / (o - 1 + s - 1) % s) (othr (k % (o - 1 + s - 1) - (o - 1)) (at2 nx (k / (o - 1 + s - 1) / s) (k / (o - 1 + s - 1) % s))), ou)

structure MutI (s o k : Int) (n : Nat) : Prop where
  e0 : 0 < o - 1 + s - 1
  k0 : 0 ≤ k ∧ k ≤ 330
  i0 : 0 ≤ k % (o - 1 + s - 1) ∧ k % (o - 1 + s - 1) < o - 1 + s - 1
  d0 : 0 ≤ k / (o - 1 + s - 1) ∧ k / (o - 1 + s - 1) ≤ 330
  q0 : 0 ≤ k / (o - 1 + s - 1) % s ∧ k / (o - 1 + s - 1) % s < s
  l0 : 0 ≤ k / (o - 1 + s - 1) / s ∧ k / (o - 1 + s - 1) / s < n

theorem mut_idx {s o k : Int} {n : Nat} (hs : 1 ≤ s ∧ s ≤ 10) (ho : 1 ≤ o ∧ o ≤ 3) (hn : n ≤ 3) (hk : 0 ≤ k ∧ k < mutN s o n) : MutI s o k n := by
  have hb := mutN_bounds hs ho hn
  have he : 0 < o - 1 + s - 1 := by
    by_cases he : 0 < o - 1 + s - 1
    · exact he
    · have e0 : o - 1 + s - 1 = 0 := by omega
      unfold mutN at hk
      rw [e0, Int.mul_zero] at hk
      omega
  have h1 : k / (o - 1 + s - 1) < n * s := Int.ediv_lt_of_lt_mul he hk.2
  have h2 : k / (o - 1 + s - 1) / s < n := Int.ediv_lt_of_lt_mul (by omega) h1
  have h3 : 0 ≤ k / (o - 1 + s - 1) := Int.ediv_nonneg hk.1 (by omega)
  have h4 : 0 ≤ k / (o - 1 + s - 1) / s := Int.ediv_nonneg h3 (by omega)
  have h5 := Int.emod_nonneg k (show o - 1 + s - 1 ≠ 0 by omega)
  have h6 := Int.emod_lt_of_pos k he
  have h7 := Int.emod_nonneg (k / (o - 1 + s - 1)) (show s ≠ 0 by omega)
  have h8 := Int.emod_lt_of_pos (k / (o - 1 + s - 1)) (show 0 < s by omega)
  exact ⟨he, ⟨hk.1, by omega⟩, ⟨h5, h6⟩, ⟨h3, by omega⟩, ⟨h7, h8⟩, ⟨h4, h2⟩⟩

theorem othr_in {i x hi : Int} (h : 0 ≤ i ∧ i < hi - 1) : 0 ≤ othr i x ∧ othr i x < hi := by unfold othr; split <;> omega

theorem mv_mut {s o k : Int} {nx ou : List (List Int)} (m : MV s o nx ou) (hk : 0 ≤ k ∧ k < mutN s o nx.length) : MV s o (mutX s o nx ou k).1 (mutX s o nx ou k).2 ∧ (mutX s o nx ou k).1.length = nx.length := by
  have hi := mut_idx m.s1 m.o1 m.n1.2 hk
  have hn1 := m.n1
  have he := m.eq
  have h5 := hi.i0
  unfold mutX
  split
  · rename_i hlt
    exact ⟨⟨m.s1, m.o1, m.n1, by rw [set2_length]; exact m.eq, m.nx, tbl_set2 m.ou (by rw [m.eq]; exact hi.l0) (othr_in ⟨hi.i0.1, by omega⟩)⟩, rfl⟩
  · rename_i hge
    exact ⟨⟨m.s1, m.o1, by rw [set2_length]; exact m.n1, by rw [set2_length]; exact m.eq, tbl_set2 m.nx hi.l0 (othr_in ⟨by omega, by omega⟩), m.ou⟩, set2_length ..⟩

theorem rowsOk_tbl {s hi : Int} {xs : List (List Int)} (h : Tbl s hi xs) (hs : s ≤ 10) (hh : hi ≤ 10) (hn : xs.length ≤ 3) : RowsOk xs :=
  ⟨fun ns hm => by
    have := h ns hm
    exact ⟨fun n hn => by have := this.2 n hn; unfold I64; omega, by omega⟩, by omega⟩
theorem MV.rnx {s o : Int} {nx ou : List (List Int)} (m : MV s o nx ou) : RowsOk nx := rowsOk_tbl m.nx m.s1.2 m.s1.2 m.n1.2
theorem MV.rou {s o : Int} {nx ou : List (List Int)} (m : MV s o nx ou) : RowsOk ou := rowsOk_tbl m.ou m.s1.2 (by have := m.o1; omega) (by rw [m.eq]; exact m.n1.2)

theorem rws_set2 {xs : List (List Int)} {l q v : Int} (hl : 0 ≤ l ∧ l < xs.length) : (rws xs).set l.toNat (((row xs l).map (D.int .i64)).set q.toNat (.int .i64 v)) = rws (set2 xs l q v) := by
  unfold rws set2
  rw [List.map_set, List.map_set]
theorem rws_row {xs : List (List Int)} {l : Int} (hl : 0 ≤ l ∧ l < xs.length) : (rws xs)[l.toNat]? = some ((row xs l).map (D.int .i64)) := by
  have : l.toNat < xs.length := by omega
  simp [rws, row, List.getD_eq_getElem?_getD, this]
end Go.Proofs.Ytkaffmojojnhhaa

/-! Contracts: copies of rows, and the reference's mutant. No condition. -/
namespace Go.Proofs.Ytkaffmojojnhhaa
open Go
attribute [local irreducible] awp awpL awpQL awpQ awpM pWalk Qt AC thenQ blockQ loopQ OpTo
set_option linter.unusedVariables false
set_option linter.unusedSimpArgs false
set_option maxHeartbeats 2000000
attribute [local irreducible] HC

theorem elsOk_ints : ∀ ns : List Int, elsOk 1 (ns.map (D.int .i64)) = true
  | [] => rfl
  | n :: ns => by simp [elsOk, D.el, D.one, D.width, elsOk_ints ns]

theorem spec_l00OwnH {ns : List Int} (hn : ns.length ≤ 1048576) : HC Try.prog 86 [.d (ints ns)] [] (.own 30000) [(30000, .arr 2 1 (ns.map (.int .i64)))] := by
  have hl : (List.map (D.int IntKind.i64) ns).length = ns.length := by simp
  refine hc_intro tabIs _ Try.func86 rfl rfl Try.ntmps86 rfl rfl rfl ?_ fun w0 ok0 XM XA anc => ?_
  · exact likeIn_nil
  repeat (first | refine v_w (t := 3) ?_ | refine awp_seq ?_ | refine then_n ?_ | refine then_r ?_ | refine then_x ?_ | refine block_n ?_ | refine block_r ?_ | refine block_x ?_ | refine u_y ?_ | refine loop_r ?_ | refine loop_x ?_ | refine awp_region ?_ | refine awpL_nil ?_ | refine awpQL_nil ?_ | refine awp_block ?_ | refine awp_skip ?_ | refine awp_exit ?_ | refine awp_label ?_ | refine u_dT ?_ | refine u_d ?_ | refine u_w (t := 3) ?_ | refine u_l ?_ | refine u_o ?_ | refine u_q ?_ | refine u_lr ?_ | refine u_qr ?_ | refine u_ls ?_ | refine u_qs ?_ | refine u_t ?_ | refine u_f ?_ | refine v_s ?_ | refine v_o ?_ | refine v_on ?_ | refine v_og ?_ | refine v_q ?_ | refine v_sr ?_ | refine v_k ?_ | refine m_nil ?_)
  (apply lto; (focus (apply wo_append; (iterate 14 exact rfl); exact elsOk_ints ns; (simp; omega))))
  repeat (first | refine awp_seq ?_ | refine then_n ?_ | refine then_r ?_ | refine then_x ?_ | refine block_n ?_ | refine block_r ?_ | refine block_x ?_ | refine u_y ?_ | refine loop_r ?_ | refine loop_x ?_ | refine awp_region ?_ | refine awpL_nil ?_ | refine awpQL_nil ?_ | refine awp_block ?_ | refine awp_skip ?_ | refine awp_exit ?_ | refine awp_label ?_ | refine u_dT ?_ | refine u_d ?_ | refine u_l ?_ | refine u_o ?_ | refine u_q ?_ | refine u_lr ?_ | refine u_qr ?_ | refine u_ls ?_ | refine u_qs ?_ | refine u_t ?_ | refine u_f ?_ | refine v_s ?_ | refine v_o ?_ | refine v_on ?_ | refine v_og ?_ | refine v_q ?_ | refine v_sr ?_ | refine v_k ?_ | refine m_nil ?_)
  (refine awp_ret ?_; (repeat (first | refine then_r ?_ | refine block_r ?_ | refine loop_r ?_)); refine u_rH [(3, 30000)] ?_ ?_)
  · rfl
  · rfl

theorem rws_take {nss : List (List Int)} {k : Nat} (hk : k < nss.length) : rws (nss.take (k + 1)) = rws (nss.take k) ++ [nss[k].map (.int .i64)] := by
  unfold rws
  rw [List.take_succ_eq_append_getElem hk, List.map_append]
  rfl

theorem spec_l06OwnRowsH {nss : List (List Int)} (h1 : nss.length ≤ 1000) (h2 : ∀ ns ∈ nss, ns.length ≤ 1000) : HC Try.prog 121 [.d (rows nss)] [] (.own 30000) [(30000, .rows 26 2 1 (rws nss) none)] := by
  have hl : (List.map ints nss).length = nss.length := by simp
  refine hc_intro tabIs _ Try.func121 rfl rfl Try.ntmps121 rfl rfl rfl ?_ fun w0 ok0 XM XA anc => ?_
  · exact likeIn_nil
  repeat (first | refine v_w (t := 5) ?_ | refine awp_seq ?_ | refine then_n ?_ | refine then_r ?_ | refine then_x ?_ | refine block_n ?_ | refine block_r ?_ | refine block_x ?_ | refine u_y ?_ | refine loop_r ?_ | refine loop_x ?_ | refine awp_region ?_ | refine awpL_nil ?_ | refine awpQL_nil ?_ | refine awp_block ?_ | refine awp_skip ?_ | refine awp_exit ?_ | refine awp_label ?_ | refine u_dT ?_ | refine u_d ?_ | refine u_w (t := 5) ?_ | refine u_l ?_ | refine u_o ?_ | refine u_q ?_ | refine u_lr ?_ | refine u_qr ?_ | refine u_ls ?_ | refine u_qs ?_ | refine u_t ?_ | refine u_f ?_ | refine v_s ?_ | refine v_o ?_ | refine v_on ?_ | refine v_og ?_ | refine v_q ?_ | refine v_sr ?_ | refine v_k ?_ | refine m_nil ?_)
  refine awp_toRows 5 2 1 rfl rfl rfl rfl ?_
  refine awp_loop (fun k : Nat => k ≤ nss.length) (fun k => [(0, .d (rows nss)), (3, .own 5), (4, .d (.int .i64 k))]) (fun k => [(5, .rows 26 2 1 (rws (nss.take k)) none)]) (fun k => nss.length - k) 0 (by omega) ?_ rfl ?_
  · ((repeat (first | exact trivial | (refine ⟨?_, ?_⟩; (focus (first | rfl | (simp [lk, argsS, args0]; done) | (simp [lk, argsS, args0]; omega)))))))
  · intro k hk
    have hrl : (rws (nss.take k)).length = k := by rw [rws_length]; simp; omega
    by_cases hlt : k < nss.length
    · have he := el_row hlt
      have hc := spec_l00OwnH (ns := nss[k]) (by have := h2 _ (List.getElem_mem hlt); omega)
      have ht := rws_take hlt
      repeat (first | refine awp_seq ?_ | refine then_n ?_ | refine then_r ?_ | refine then_x ?_ | refine block_n ?_ | refine block_r ?_ | refine block_x ?_ | refine u_y ?_ | refine loop_r ?_ | refine loop_x ?_ | refine awp_region ?_ | refine awpL_nil ?_ | refine awpQL_nil ?_ | refine awp_block ?_ | refine awp_skip ?_ | refine awp_exit ?_ | refine awp_label ?_ | refine u_dT ?_ | refine u_d ?_ | refine u_l ?_ | refine u_o ?_ | refine u_q ?_ | refine u_lr ?_ | refine u_qr ?_ | refine u_ls ?_ | refine u_qs ?_ | refine u_t ?_ | refine u_f ?_ | refine v_s ?_ | refine v_o ?_ | refine v_on ?_ | refine v_og ?_ | refine v_q ?_ | refine v_sr ?_ | refine v_k ?_ | refine m_nil ?_)
      refine hcl [] [(30000, 500)] hc ?_
      repeat (first | refine awp_seq ?_ | refine then_n ?_ | refine then_r ?_ | refine then_x ?_ | refine block_n ?_ | refine block_r ?_ | refine block_x ?_ | refine u_y ?_ | refine loop_r ?_ | refine loop_x ?_ | refine awp_region ?_ | refine awpL_nil ?_ | refine awpQL_nil ?_ | refine awp_block ?_ | refine awp_skip ?_ | refine awp_exit ?_ | refine awp_label ?_ | refine u_dT ?_ | refine u_d ?_ | refine u_l ?_ | refine u_o ?_ | refine u_q ?_ | refine u_lr ?_ | refine u_qr ?_ | refine u_ls ?_ | refine u_qs ?_ | refine u_t ?_ | refine u_f ?_ | refine v_s ?_ | refine v_o ?_ | refine v_on ?_ | refine v_og ?_ | refine v_q ?_ | refine v_sr ?_ | refine v_k ?_ | refine m_nil ?_)
      refine loop_n (k + 1) (by omega) ?_ ?_ (by omega)
      · ((repeat (first | exact trivial | (refine ⟨?_, ?_⟩; (focus (first | rfl | (simp [lk, argsS, args0]; done) | (simp [lk, argsS, args0]; omega)))))))
      · rw [ht]; rfl
    · have hk' : k = nss.length := by omega
      subst hk'
      repeat (first | refine awp_seq ?_ | refine then_n ?_ | refine then_r ?_ | refine then_x ?_ | refine block_n ?_ | refine block_r ?_ | refine block_x ?_ | refine u_y ?_ | refine loop_r ?_ | refine loop_x ?_ | refine awp_region ?_ | refine awpL_nil ?_ | refine awpQL_nil ?_ | refine awp_block ?_ | refine awp_skip ?_ | refine awp_exit ?_ | refine awp_label ?_ | refine u_dT ?_ | refine u_d ?_ | refine u_l ?_ | refine u_o ?_ | refine u_q ?_ | refine u_lr ?_ | refine u_qr ?_ | refine u_ls ?_ | refine u_qs ?_ | refine u_t ?_ | refine u_f ?_ | refine v_s ?_ | refine v_o ?_ | refine v_on ?_ | refine v_og ?_ | refine v_q ?_ | refine v_sr ?_ | refine v_k ?_ | refine m_nil ?_)
      (refine awp_ret ?_; (repeat (first | refine then_r ?_ | refine block_r ?_ | refine loop_r ?_)); refine u_rH [(5, 30000)] ?_ ?_)
      · rfl
      · rw [List.take_length]; rfl

theorem spec_l07Other {i x : Int} (hi : -1000 ≤ i ∧ i ≤ 1000) : AC Try.prog 122 [.int .i64 i, .int .i64 x] (.int .i64 (othr i x)) := by
  unfold othr
  by_cases h : x ≤ i
  · rw [if_pos h]
    refine ac_intro tabIs _ Try.func122 rfl rfl Try.ntmps122 rfl rfl fun w0 ok0 => ?_
    repeat (first | refine awp_seq ?_ | refine then_n ?_ | refine then_r ?_ | refine then_x ?_ | refine block_n ?_ | refine block_r ?_ | refine block_x ?_ | refine u_y ?_ | refine loop_r ?_ | refine loop_x ?_ | refine awp_region ?_ | refine awpL_nil ?_ | refine awpQL_nil ?_ | refine awp_block ?_ | refine awp_skip ?_ | refine awp_exit ?_ | refine awp_label ?_ | refine u_dT ?_ | refine u_d ?_ | refine u_l ?_ | refine u_o ?_ | refine u_q ?_ | refine u_lr ?_ | refine u_qr ?_ | refine u_ls ?_ | refine u_qs ?_ | refine u_t ?_ | refine u_f ?_ | refine v_s ?_ | refine v_o ?_ | refine v_on ?_ | refine v_og ?_ | refine v_q ?_ | refine v_sr ?_ | refine v_k ?_ | refine m_nil ?_)
    (refine awp_ret ?_; (repeat (first | refine then_r ?_ | refine block_r ?_ | refine loop_r ?_)); apply ret_ok (.inr rfl); (focus exact rfl))
    rfl
  · rw [if_neg h]
    refine ac_intro tabIs _ Try.func122 rfl rfl Try.ntmps122 rfl rfl fun w0 ok0 => ?_
    repeat (first | refine awp_seq ?_ | refine then_n ?_ | refine then_r ?_ | refine then_x ?_ | refine block_n ?_ | refine block_r ?_ | refine block_x ?_ | refine u_y ?_ | refine loop_r ?_ | refine loop_x ?_ | refine awp_region ?_ | refine awpL_nil ?_ | refine awpQL_nil ?_ | refine awp_block ?_ | refine awp_skip ?_ | refine awp_exit ?_ | refine awp_label ?_ | refine u_dT ?_ | refine u_d ?_ | refine u_l ?_ | refine u_o ?_ | refine u_q ?_ | refine u_lr ?_ | refine u_qr ?_ | refine u_ls ?_ | refine u_qs ?_ | refine u_t ?_ | refine u_f ?_ | refine v_s ?_ | refine v_o ?_ | refine v_on ?_ | refine v_og ?_ | refine v_q ?_ | refine v_sr ?_ | refine v_k ?_ | refine m_nil ?_)
    (refine awp_ret ?_; (repeat (first | refine then_r ?_ | refine block_r ?_ | refine loop_r ?_)); apply ret_ok (.inr rfl); (focus exact rfl))
    rfl
end Go.Proofs.Ytkaffmojojnhhaa
