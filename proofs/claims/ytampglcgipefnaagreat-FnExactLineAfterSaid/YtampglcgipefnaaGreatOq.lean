/- Lines in the laws' package. No condition. -/
import Derived.Test.YtampglcgipefnaaGreatOm
namespace Go.Proofs.YtampglcgipefnaaGreat
open Go
attribute [local irreducible] awp awpL awpQL awpQ awpM pWalk Qt AC thenQ blockQ loopQ OpTo
set_option linter.unusedVariables false
set_option linter.unusedSimpArgs false
set_option maxHeartbeats 2000000
attribute [local irreducible] HC

def skL (d : Dsk) (i j : Nat) : SV := .agg [.d (.int .i64 d.life), .own i, .d (.int .i64 d.sure), .own j]
def i64C (l : List Int) : Chunk := .arr 2 1 (l.map (.int .i64))
def laS (n : Ln) (a b c d e : Nat) : SV := .agg [.d (.int .i64 n.st), .d (.int .i64 n.life), .d (.int .i64 n.tk), .d (.int .i64 n.d.life), .own a, .d (.int .i64 n.d.sure), .own b, .d (.int .i64 n.sv.life), .own c, .d (.int .i64 n.sv.sure), .own d, .own e]

theorem laws_eqDesk {d : Dsk} (h1 : d.ord.length ≤ 60) (h2 : d.bel.length ≤ 10) : AC Tryz.prog 54 [dskD d, dskD d] (.bool true) := by
  have q1 : AC Tryz.prog 26 [ints d.ord, ints d.ord] (.bool true) := by have := laws_eqInt64S (a := d.ord) (b := d.ord) (by omega) (by omega); simpa using this
  have q2 : AC Tryz.prog 26 [ints d.bel, ints d.bel] (.bool true) := by have := laws_eqInt64S (a := d.bel) (b := d.bel) (by omega) (by omega); simpa using this
  unfold dskD dskL
  refine ac_intro tabIs _ Tryz.func54 rfl rfl Tryz.ntmps54 rfl rfl fun w0 ok0 => ?_
  repeat (first | refine awp_seq ?_ | refine then_n ?_ | refine then_r ?_ | refine then_x ?_ | refine block_n ?_ | refine block_r ?_ | refine block_x ?_ | refine u_y ?_ | refine loop_r ?_ | refine loop_x ?_ | refine awp_region ?_ | refine awpL_nil ?_ | refine awpQL_nil ?_ | refine awp_block ?_ | refine awp_skip ?_ | refine awp_exit ?_ | refine awp_label ?_ | refine u_dT ?_ | refine u_d ?_ | ((first | apply c_l | apply c_q | apply c_lr | apply c_qr); (iterate 2 exact rfl); (focus (first | exact q1 | exact q2)); (iterate 2 exact rfl)) | (apply v_c; (iterate 4 exact rfl); (focus (first | exact q1 | exact q2)); (iterate 2 exact rfl)) | refine u_l ?_ | refine u_o ?_ | refine u_q ?_ | refine u_lr ?_ | refine u_qr ?_ | refine u_ls ?_ | refine u_qs ?_ | refine u_t ?_ | refine u_f ?_ | refine v_s ?_ | refine v_o ?_ | refine v_on ?_ | refine v_og ?_ | refine v_q ?_ | refine v_sr ?_ | refine v_k ?_ | refine m_nil ?_)
  (refine awp_ret ?_; (repeat (first | refine then_r ?_ | refine block_r ?_ | refine loop_r ?_)); apply ret_ok (.inr rfl); (focus exact rfl))
  rfl
theorem laws_eqPacket {p : Pk} : AC Tryz.prog 97 [pkD p, pkD p] (.bool true) := by
  unfold pkD
  refine ac_intro tabIs _ Tryz.func97 rfl rfl Tryz.ntmps97 rfl rfl fun w0 ok0 => ?_
  repeat (first | refine awp_seq ?_ | refine then_n ?_ | refine then_r ?_ | refine then_x ?_ | refine block_n ?_ | refine block_r ?_ | refine block_x ?_ | refine u_y ?_ | refine loop_r ?_ | refine loop_x ?_ | refine awp_region ?_ | refine awpL_nil ?_ | refine awpQL_nil ?_ | refine awp_block ?_ | refine awp_skip ?_ | refine awp_exit ?_ | refine awp_label ?_ | refine u_dT ?_ | refine u_d ?_ | refine u_l ?_ | refine u_o ?_ | refine u_q ?_ | refine u_lr ?_ | refine u_qr ?_ | refine u_ls ?_ | refine u_qs ?_ | refine u_t ?_ | refine u_f ?_ | refine v_s ?_ | refine v_o ?_ | refine v_on ?_ | refine v_og ?_ | refine v_q ?_ | refine v_sr ?_ | refine v_k ?_ | refine m_nil ?_)
  (refine awp_ret ?_; (repeat (first | refine then_r ?_ | refine block_r ?_ | refine loop_r ?_)); apply ret_ok (.inr rfl); (focus exact rfl))
  rfl
theorem el_pk {l : List Pk} {k : Nat} (h : k < l.length) : (l.map pkD)[(k : Int).toNat]? = some (.agg [.bool l[k].rep, .int .i64 l[k].life, .int .i64 l[k].num, .int .i64 l[k].val]) := by simp [h, pkD]
theorem laws_eqPacketS {l : List Pk} (h1 : l.length ≤ 1000) : AC Tryz.prog 55 [.lst (l.map pkD), .lst (l.map pkD)] (.bool true) := by
  have hl : (l.map pkD).length = l.length := by simp
  refine ac_intro tabIs _ Tryz.func55 rfl rfl Tryz.ntmps55 rfl rfl fun w0 ok0 => ?_
  repeat (first | refine awp_seq ?_ | refine then_n ?_ | refine then_r ?_ | refine then_x ?_ | refine block_n ?_ | refine block_r ?_ | refine block_x ?_ | refine u_y ?_ | refine loop_r ?_ | refine loop_x ?_ | refine awp_region ?_ | refine awpL_nil ?_ | refine awpQL_nil ?_ | refine awp_block ?_ | refine awp_skip ?_ | refine awp_exit ?_ | refine awp_label ?_ | refine u_dT ?_ | refine u_d ?_ | refine u_l ?_ | refine u_o ?_ | refine u_q ?_ | refine u_lr ?_ | refine u_qr ?_ | refine u_ls ?_ | refine u_qs ?_ | refine u_t ?_ | refine u_f ?_ | refine v_s ?_ | refine v_o ?_ | refine v_on ?_ | refine v_og ?_ | refine v_q ?_ | refine v_sr ?_ | refine v_k ?_ | refine m_nil ?_)
  refine awp_loop (fun k : Nat => k ≤ l.length) (fun k => [(0, .d (.lst (l.map pkD))), (1, .d (.lst (l.map pkD))), (5, .d (.int .i64 k))]) (fun _ => []) (fun k => l.length - k) 0 (by omega) ?_ rfl ?_
  · ((repeat (first | exact trivial | (refine ⟨?_, ?_⟩; (focus (first | rfl | (simp [lk, argsS, args0]; done) | (simp [lk, argsS, args0]; omega)))))))
  · intro k hk
    by_cases hlt : k < l.length
    · have he := el_pk hlt
      have e1 := laws_eqPacket (p := l[k])
      unfold pkD at e1
      generalize l[k] = dk at *
      repeat (first | refine awp_seq ?_ | refine then_n ?_ | refine then_r ?_ | refine then_x ?_ | refine block_n ?_ | refine block_r ?_ | refine block_x ?_ | refine u_y ?_ | refine loop_r ?_ | refine loop_x ?_ | refine awp_region ?_ | refine awpL_nil ?_ | refine awpQL_nil ?_ | refine awp_block ?_ | refine awp_skip ?_ | refine awp_exit ?_ | refine awp_label ?_ | refine u_dT ?_ | refine u_d ?_ | ((first | apply c_l | apply c_q | apply c_lr | apply c_qr); (iterate 2 exact rfl); (focus (first | exact e1)); (iterate 2 exact rfl)) | (apply v_c; (iterate 4 exact rfl); (focus (first | exact e1)); (iterate 2 exact rfl)) | refine u_l ?_ | refine u_o ?_ | refine u_q ?_ | refine u_lr ?_ | refine u_qr ?_ | refine u_ls ?_ | refine u_qs ?_ | refine u_t ?_ | refine u_f ?_ | refine v_s ?_ | refine v_o ?_ | refine v_on ?_ | refine v_og ?_ | refine v_q ?_ | refine v_sr ?_ | refine v_k ?_ | refine m_nil ?_)
      refine loop_n (k + 1) (by omega) ?_ rfl (by omega)
      ((repeat (first | exact trivial | (refine ⟨?_, ?_⟩; (focus (first | rfl | (simp [lk, argsS, args0]; done) | (simp [lk, argsS, args0]; omega)))))))
    · have hk' : k = l.length := by omega
      subst hk'
      repeat (first | refine awp_seq ?_ | refine then_n ?_ | refine then_r ?_ | refine then_x ?_ | refine block_n ?_ | refine block_r ?_ | refine block_x ?_ | refine u_y ?_ | refine loop_r ?_ | refine loop_x ?_ | refine awp_region ?_ | refine awpL_nil ?_ | refine awpQL_nil ?_ | refine awp_block ?_ | refine awp_skip ?_ | refine awp_exit ?_ | refine awp_label ?_ | refine u_dT ?_ | refine u_d ?_ | refine u_l ?_ | refine u_o ?_ | refine u_q ?_ | refine u_lr ?_ | refine u_qr ?_ | refine u_ls ?_ | refine u_qs ?_ | refine u_t ?_ | refine u_f ?_ | refine v_s ?_ | refine v_o ?_ | refine v_on ?_ | refine v_og ?_ | refine v_q ?_ | refine v_sr ?_ | refine v_k ?_ | refine m_nil ?_)
      (refine awp_ret ?_; (repeat (first | refine then_r ?_ | refine block_r ?_ | refine loop_r ?_)); apply ret_ok (.inr rfl); (focus exact rfl))
      rfl
theorem laws_eqLine {n : Ln} (h1 : n.d.ord.length ≤ 60) (h2 : n.d.bel.length ≤ 10) (h3 : n.sv.ord.length ≤ 60) (h4 : n.sv.bel.length ≤ 10) (h5 : n.wire.length ≤ 10) : AC Tryz.prog 19 [.agg (lnL n), .agg (lnL n)] (.bool true) := by
  have q1 := laws_eqDesk (d := n.d) h1 h2
  have q2 := laws_eqDesk (d := n.sv) h3 h4
  have q3 := laws_eqPacketS (l := n.wire) (by omega)
  unfold lnL dskD dskL at *
  refine ac_intro tabIs _ Tryz.func19 rfl rfl Tryz.ntmps19 rfl rfl fun w0 ok0 => ?_
  repeat (first | refine awp_seq ?_ | refine then_n ?_ | refine then_r ?_ | refine then_x ?_ | refine block_n ?_ | refine block_r ?_ | refine block_x ?_ | refine u_y ?_ | refine loop_r ?_ | refine loop_x ?_ | refine awp_region ?_ | refine awpL_nil ?_ | refine awpQL_nil ?_ | refine awp_block ?_ | refine awp_skip ?_ | refine awp_exit ?_ | refine awp_label ?_ | refine u_dT ?_ | refine u_d ?_ | ((first | apply c_l | apply c_q | apply c_lr | apply c_qr); (iterate 2 exact rfl); (focus (first | exact q1 | exact q2 | exact q3)); (iterate 2 exact rfl)) | (apply v_c; (iterate 4 exact rfl); (focus (first | exact q1 | exact q2 | exact q3)); (iterate 2 exact rfl)) | refine u_l ?_ | refine u_o ?_ | refine u_q ?_ | refine u_lr ?_ | refine u_qr ?_ | refine u_ls ?_ | refine u_qs ?_ | refine u_t ?_ | refine u_f ?_ | refine v_s ?_ | refine v_o ?_ | refine v_on ?_ | refine v_og ?_ | refine v_q ?_ | refine v_sr ?_ | refine v_k ?_ | refine m_nil ?_)
  (refine awp_ret ?_; (repeat (first | refine then_r ?_ | refine block_r ?_ | refine loop_r ?_)); apply ret_ok (.inr rfl); (focus exact rfl))
  rfl

/-- The marks of packets. -/
def mkPk : Int → Nat → List Pk
  | _, 0 => []
  | k, n + 1 => ⟨decide (k % 3 = 0), k + 1, k + 2, k + 3⟩ :: mkPk (k + 4) n
theorem mkPk_len : ∀ (n : Nat) (k : Int), (mkPk k n).length = n
  | 0, _ => rfl
  | n + 1, k => by simp [mkPk, mkPk_len n]
theorem mkPk_snoc : ∀ (n : Nat) (k : Int), mkPk k (n + 1) = mkPk k n ++ [⟨decide ((k + 4 * n) % 3 = 0), k + 4 * n + 1, k + 4 * n + 2, k + 4 * n + 3⟩]
  | 0, k => by simp [mkPk]
  | n + 1, k => by
    have := mkPk_snoc n (k + 4)
    rw [mkPk, this]
    have e : k + 4 + 4 * (n : Int) = k + 4 * ((n + 1 : Nat) : Int) := by omega
    simp only [mkPk, List.cons_append, e]
theorem mkPk_get : ∀ (n : Nat) (k : Int) (i : Nat) (h : i < n), (mkPk k n)[i]? = some ⟨decide ((k + 4 * i) % 3 = 0), k + 4 * i + 1, k + 4 * i + 2, k + 4 * i + 3⟩
  | n + 1, k, 0, _ => by simp [mkPk]
  | n + 1, k, i + 1, h => by
    have := mkPk_get n (k + 4) i (by omega)
    have e : k + 4 + 4 * (i : Int) = k + 4 * ((i + 1 : Nat) : Int) := by omega
    rw [e] at this
    rw [mkPk, List.getElem?_cons_succ, this]

theorem laws_markPacketS {l : List Pk} {k : Int} (hk : 0 ≤ k) (hl : k + 4 * l.length ≤ 4611686018427387904) :
    HC Tryz.prog 58 [.own 10000, .d (.int .i64 k)] [(10000, wrC l)] (.d (.int .i64 (k + 4 * l.length))) [(10000, wrC (mkPk k l.length))] := by
  have hle : (l.map pkD).length = l.length := by simp
  unfold wrC
  refine hc_intro tabIs _ Tryz.func58 rfl rfl Tryz.ntmps58 rfl rfl rfl ?_ fun w0 ok0 XM XA anc => ?_
  · exact likeIn_cons rfl ⟨rfl, rfl, by simp [mkPk_len]⟩ likeIn_nil
  repeat (first | refine awp_seq ?_ | refine then_n ?_ | refine then_r ?_ | refine then_x ?_ | refine block_n ?_ | refine block_r ?_ | refine block_x ?_ | refine u_y ?_ | refine loop_r ?_ | refine loop_x ?_ | refine awp_region ?_ | refine awpL_nil ?_ | refine awpQL_nil ?_ | refine awp_block ?_ | refine awp_skip ?_ | refine awp_exit ?_ | refine awp_label ?_ | refine u_dT ?_ | refine u_d ?_ | refine u_l ?_ | refine u_o ?_ | refine u_q ?_ | refine u_lr ?_ | refine u_qr ?_ | refine u_ls ?_ | refine u_qs ?_ | refine u_t ?_ | refine u_f ?_ | refine v_s ?_ | refine v_o ?_ | refine v_on ?_ | refine v_og ?_ | refine v_q ?_ | refine v_sr ?_ | refine v_k ?_ | refine m_nil ?_)
  refine awp_loop (fun i : Nat => i ≤ l.length) (fun i => [(0, .own 10000), (1, .d (.int .i64 (k + 4 * i))), (5, .d (.int .i64 i))]) (fun i => [(10000, .arr 90 4 ((mkPk k i ++ l.drop i).map pkD))]) (fun i => l.length - i) 0 (by omega) ?_ rfl ?_
  · refine ⟨rfl, ?_, rfl, trivial⟩
    simp [lk, argsS]
  · intro i hi
    have hml := mkPk_len i k
    have hlen : ((mkPk k i ++ l.drop i).map pkD).length = l.length := by simp [hml]; omega
    by_cases hlt : i < l.length
    · have hz : ((mkPk k i ++ l.drop i).map pkD)[(i : Int).toNat]? = some (.agg [.bool l[i].rep, .int .i64 l[i].life, .int .i64 l[i].num, .int .i64 l[i].val]) := by
        rw [Int.toNat_natCast, List.getElem?_map, List.getElem?_append_right (by omega), hml, Nat.sub_self, List.getElem?_drop, Nat.add_zero, List.getElem?_eq_getElem hlt]
        rfl
      have hfin : ∀ p : Pk, (((mkPk k i ++ l.drop i).map pkD).set (i : Int).toNat (pkD p)) = (mkPk k i ++ p :: l.drop (i + 1)).map pkD := fun p => by
        rw [Int.toNat_natCast, List.map_append, List.set_append_right _ _ (by simp [hml]), List.length_map, hml, Nat.sub_self, List.drop_eq_getElem_cons hlt, List.map_append]
        rfl
      generalize hR : (mkPk k i ++ l.drop i).map pkD = R at *
      have hz2 : ∀ a : D, (R.set (i : Int).toNat a)[(i : Int).toNat]? = some a := fun a => by
        rw [Int.toNat_natCast, List.getElem?_set_self (by omega)]
      have hsn := mkPk_snoc i k
      have hR2 : ∀ a : D, (R.set (i : Int).toNat a).length = l.length := fun a => by rw [List.length_set, hlen]
      have hss : ∀ a b : D, (R.set (i : Int).toNat a).set (i : Int).toNat b = R.set (i : Int).toNat b := fun a b => List.set_set ..
      generalize l[i] = li at *
      repeat (first | refine awp_seq ?_ | refine then_n ?_ | refine then_r ?_ | refine then_x ?_ | refine block_n ?_ | refine block_r ?_ | refine block_x ?_ | refine u_y ?_ | refine loop_r ?_ | refine loop_x ?_ | refine awp_region ?_ | refine awpL_nil ?_ | refine awpQL_nil ?_ | refine awp_block ?_ | refine awp_skip ?_ | refine awp_exit ?_ | refine awp_label ?_ | refine u_dT ?_ | refine u_d ?_ | ((first | apply x_l | apply x_q | apply x_lr | apply x_qr); (focus (first | (apply wv_indexRef; (iterate 9 (focus (first | exact rfl | (first | assumption | omega | (simp; omega) | (simp; done) | rfl))))))); exact rfl) | (apply v_x; (iterate 2 exact rfl); (focus (intro ok0 nw hle; (first | (apply wv_indexRef; (iterate 9 (focus (first | exact rfl | (first | assumption | omega | (simp; omega) | (simp; done) | rfl)))))))); (iterate 2 exact rfl)) | refine u_l ?_ | refine u_o ?_ | refine u_q ?_ | refine u_lr ?_ | refine u_qr ?_ | refine u_ls ?_ | refine u_qs ?_ | refine u_t ?_ | refine u_f ?_ | refine v_s ?_ | refine v_o ?_ | refine v_on ?_ | refine v_og ?_ | refine v_q ?_ | refine v_sr ?_ | refine v_k ?_ | refine m_nil ?_)
      (apply lto; (focus (apply wv_storeFld (i : Int).toNat 0; (iterate 7 exact rfl); exact hz; (all_goals (first | exact rfl | (simp; done))))))
      repeat (first | refine awp_seq ?_ | refine then_n ?_ | refine then_r ?_ | refine then_x ?_ | refine block_n ?_ | refine block_r ?_ | refine block_x ?_ | refine u_y ?_ | refine loop_r ?_ | refine loop_x ?_ | refine awp_region ?_ | refine awpL_nil ?_ | refine awpQL_nil ?_ | refine awp_block ?_ | refine awp_skip ?_ | refine awp_exit ?_ | refine awp_label ?_ | refine u_dT ?_ | refine u_d ?_ | ((first | apply x_l | apply x_q | apply x_lr | apply x_qr); (focus (first | (apply wv_indexRef; (iterate 9 (focus (first | exact rfl | (first | assumption | omega | (simp; omega) | (simp; done) | rfl))))))); exact rfl) | (apply v_x; (iterate 2 exact rfl); (focus (intro ok0 nw hle; (first | (apply wv_indexRef; (iterate 9 (focus (first | exact rfl | (first | assumption | omega | (simp; omega) | (simp; done) | rfl)))))))); (iterate 2 exact rfl)) | refine u_l ?_ | refine u_o ?_ | refine u_q ?_ | refine u_lr ?_ | refine u_qr ?_ | refine u_ls ?_ | refine u_qs ?_ | refine u_t ?_ | refine u_f ?_ | refine v_s ?_ | refine v_o ?_ | refine v_on ?_ | refine v_og ?_ | refine v_q ?_ | refine v_sr ?_ | refine v_k ?_ | refine m_nil ?_)
      (apply lto; (focus (apply wv_storeFld (i : Int).toNat 1; (iterate 7 exact rfl); exact hz2 _; (all_goals (first | exact rfl | (simp; done))))))
      rw [hss]
      repeat (first | refine awp_seq ?_ | refine then_n ?_ | refine then_r ?_ | refine then_x ?_ | refine block_n ?_ | refine block_r ?_ | refine block_x ?_ | refine u_y ?_ | refine loop_r ?_ | refine loop_x ?_ | refine awp_region ?_ | refine awpL_nil ?_ | refine awpQL_nil ?_ | refine awp_block ?_ | refine awp_skip ?_ | refine awp_exit ?_ | refine awp_label ?_ | refine u_dT ?_ | refine u_d ?_ | ((first | apply x_l | apply x_q | apply x_lr | apply x_qr); (focus (first | (apply wv_indexRef; (iterate 9 (focus (first | exact rfl | (first | assumption | omega | (simp; omega) | (simp; done) | rfl))))))); exact rfl) | (apply v_x; (iterate 2 exact rfl); (focus (intro ok0 nw hle; (first | (apply wv_indexRef; (iterate 9 (focus (first | exact rfl | (first | assumption | omega | (simp; omega) | (simp; done) | rfl)))))))); (iterate 2 exact rfl)) | refine u_l ?_ | refine u_o ?_ | refine u_q ?_ | refine u_lr ?_ | refine u_qr ?_ | refine u_ls ?_ | refine u_qs ?_ | refine u_t ?_ | refine u_f ?_ | refine v_s ?_ | refine v_o ?_ | refine v_on ?_ | refine v_og ?_ | refine v_q ?_ | refine v_sr ?_ | refine v_k ?_ | refine m_nil ?_)
      (apply lto; (focus (apply wv_storeFld (i : Int).toNat 2; (iterate 7 exact rfl); exact hz2 _; (all_goals (first | exact rfl | (simp; done))))))
      rw [hss]
      repeat (first | refine awp_seq ?_ | refine then_n ?_ | refine then_r ?_ | refine then_x ?_ | refine block_n ?_ | refine block_r ?_ | refine block_x ?_ | refine u_y ?_ | refine loop_r ?_ | refine loop_x ?_ | refine awp_region ?_ | refine awpL_nil ?_ | refine awpQL_nil ?_ | refine awp_block ?_ | refine awp_skip ?_ | refine awp_exit ?_ | refine awp_label ?_ | refine u_dT ?_ | refine u_d ?_ | ((first | apply x_l | apply x_q | apply x_lr | apply x_qr); (focus (first | (apply wv_indexRef; (iterate 9 (focus (first | exact rfl | (first | assumption | omega | (simp; omega) | (simp; done) | rfl))))))); exact rfl) | (apply v_x; (iterate 2 exact rfl); (focus (intro ok0 nw hle; (first | (apply wv_indexRef; (iterate 9 (focus (first | exact rfl | (first | assumption | omega | (simp; omega) | (simp; done) | rfl)))))))); (iterate 2 exact rfl)) | refine u_l ?_ | refine u_o ?_ | refine u_q ?_ | refine u_lr ?_ | refine u_qr ?_ | refine u_ls ?_ | refine u_qs ?_ | refine u_t ?_ | refine u_f ?_ | refine v_s ?_ | refine v_o ?_ | refine v_on ?_ | refine v_og ?_ | refine v_q ?_ | refine v_sr ?_ | refine v_k ?_ | refine m_nil ?_)
      (apply lto; (focus (apply wv_storeFld (i : Int).toNat 3; (iterate 7 exact rfl); exact hz2 _; (all_goals (first | exact rfl | (simp; done))))))
      rw [hss]
      repeat (first | refine awp_seq ?_ | refine then_n ?_ | refine then_r ?_ | refine then_x ?_ | refine block_n ?_ | refine block_r ?_ | refine block_x ?_ | refine u_y ?_ | refine loop_r ?_ | refine loop_x ?_ | refine awp_region ?_ | refine awpL_nil ?_ | refine awpQL_nil ?_ | refine awp_block ?_ | refine awp_skip ?_ | refine awp_exit ?_ | refine awp_label ?_ | refine u_dT ?_ | refine u_d ?_ | refine u_l ?_ | refine u_o ?_ | refine u_q ?_ | refine u_lr ?_ | refine u_qr ?_ | refine u_ls ?_ | refine u_qs ?_ | refine u_t ?_ | refine u_f ?_ | refine v_s ?_ | refine v_o ?_ | refine v_on ?_ | refine v_og ?_ | refine v_q ?_ | refine v_sr ?_ | refine v_k ?_ | refine m_nil ?_)
      refine loop_n (i + 1) (by omega) ?_ ?_ (by omega)
      · ((repeat (first | exact trivial | (refine ⟨?_, ?_⟩; (focus (first | rfl | (simp [lk, argsS, args0]; done) | (simp [lk, argsS, args0]; omega)))))))
      · rw [hsn, List.append_assoc]
        show [(10000, Chunk.arr 90 4 ((mkPk k i ++ ⟨decide ((k + 4 * (i : Int)) % 3 = 0), k + 4 * i + 1, k + 4 * i + 2, k + 4 * i + 3⟩ :: l.drop (i + 1)).map pkD))] = _
        rw [← hfin]
        have e2 : k + 4 * (i : Int) + 1 + 1 = k + 4 * i + 2 := by omega
        have e3 : k + 4 * (i : Int) + 1 + 1 + 1 = k + 4 * i + 3 := by omega
        rw [← e2, ← e3]
        rfl
    · have : i = l.length := by omega
      subst this
      repeat (first | refine awp_seq ?_ | refine then_n ?_ | refine then_r ?_ | refine then_x ?_ | refine block_n ?_ | refine block_r ?_ | refine block_x ?_ | refine u_y ?_ | refine loop_r ?_ | refine loop_x ?_ | refine awp_region ?_ | refine awpL_nil ?_ | refine awpQL_nil ?_ | refine awp_block ?_ | refine awp_skip ?_ | refine awp_exit ?_ | refine awp_label ?_ | refine u_dT ?_ | refine u_d ?_ | refine u_l ?_ | refine u_o ?_ | refine u_q ?_ | refine u_lr ?_ | refine u_qr ?_ | refine u_ls ?_ | refine u_qs ?_ | refine u_t ?_ | refine u_f ?_ | refine v_s ?_ | refine v_o ?_ | refine v_on ?_ | refine v_og ?_ | refine v_q ?_ | refine v_sr ?_ | refine v_k ?_ | refine m_nil ?_)
      (refine awp_ret ?_; (repeat (first | refine then_r ?_ | refine block_r ?_ | refine loop_r ?_)); refine u_rH [(10000, 10000)] ?_ ?_)
      · rfl
      · rw [List.drop_length, List.append_nil]; rfl

/-- The deed marks of a desk and of a line. -/
theorem laws_markDesk {d : Dsk} {k : Int} (hk : 0 ≤ k) (hl : k + d.ord.length + d.bel.length ≤ 4611686018427387904) :
    HC Tryz.prog 57 [skL d 10000 10001, .d (.int .i64 k)] [(10000, i64C d.ord), (10001, i64C d.bel)] (.d (.int .i64 (k + d.ord.length + d.bel.length))) [(10000, i64C (mk1 k d.ord.length)), (10001, i64C (mk1 (k + d.ord.length) d.bel.length))] := by
  have c1 := laws_markInt64S (xs := d.ord) (k := k) hk (by omega)
  have c2 := laws_markInt64S (xs := d.bel) (k := k + d.ord.length) (by omega) (by omega)
  unfold skL i64C
  refine hc_intro tabIs _ Tryz.func57 rfl rfl Tryz.ntmps57 rfl rfl rfl ?_ fun w0 ok0 XM XA anc => ?_
  · exact likeIn_cons rfl ⟨rfl, rfl, by simp [mk1_length]⟩ (likeIn_cons rfl ⟨rfl, rfl, by simp [mk1_length]⟩ likeIn_nil)
  repeat (first | refine awp_seq ?_ | refine then_n ?_ | refine then_r ?_ | refine then_x ?_ | refine block_n ?_ | refine block_r ?_ | refine block_x ?_ | refine u_y ?_ | refine loop_r ?_ | refine loop_x ?_ | refine awp_region ?_ | refine awpL_nil ?_ | refine awpQL_nil ?_ | refine awp_block ?_ | refine awp_skip ?_ | refine awp_exit ?_ | refine awp_label ?_ | refine u_dT ?_ | refine u_d ?_ | refine u_l ?_ | refine u_o ?_ | refine u_q ?_ | refine u_lr ?_ | refine u_qr ?_ | refine u_ls ?_ | refine u_qs ?_ | refine u_t ?_ | refine u_f ?_ | refine v_s ?_ | refine v_o ?_ | refine v_on ?_ | refine v_og ?_ | refine v_q ?_ | refine v_sr ?_ | refine v_k ?_ | refine m_nil ?_)
  refine hcl [(10000, 10000)] [(10000, 10000)] c1 ?_
  repeat (first | refine awp_seq ?_ | refine then_n ?_ | refine then_r ?_ | refine then_x ?_ | refine block_n ?_ | refine block_r ?_ | refine block_x ?_ | refine u_y ?_ | refine loop_r ?_ | refine loop_x ?_ | refine awp_region ?_ | refine awpL_nil ?_ | refine awpQL_nil ?_ | refine awp_block ?_ | refine awp_skip ?_ | refine awp_exit ?_ | refine awp_label ?_ | refine u_dT ?_ | refine u_d ?_ | refine u_l ?_ | refine u_o ?_ | refine u_q ?_ | refine u_lr ?_ | refine u_qr ?_ | refine u_ls ?_ | refine u_qs ?_ | refine u_t ?_ | refine u_f ?_ | refine v_s ?_ | refine v_o ?_ | refine v_on ?_ | refine v_og ?_ | refine v_q ?_ | refine v_sr ?_ | refine v_k ?_ | refine m_nil ?_)
  refine hcl [(10001, 10000)] [(10000, 10001)] c2 ?_
  repeat (first | refine awp_seq ?_ | refine then_n ?_ | refine then_r ?_ | refine then_x ?_ | refine block_n ?_ | refine block_r ?_ | refine block_x ?_ | refine u_y ?_ | refine loop_r ?_ | refine loop_x ?_ | refine awp_region ?_ | refine awpL_nil ?_ | refine awpQL_nil ?_ | refine awp_block ?_ | refine awp_skip ?_ | refine awp_exit ?_ | refine awp_label ?_ | refine u_dT ?_ | refine u_d ?_ | refine u_l ?_ | refine u_o ?_ | refine u_q ?_ | refine u_lr ?_ | refine u_qr ?_ | refine u_ls ?_ | refine u_qs ?_ | refine u_t ?_ | refine u_f ?_ | refine v_s ?_ | refine v_o ?_ | refine v_on ?_ | refine v_og ?_ | refine v_q ?_ | refine v_sr ?_ | refine v_k ?_ | refine m_nil ?_)
  (refine awp_ret ?_; (repeat (first | refine then_r ?_ | refine block_r ?_ | refine loop_r ?_)); refine u_rH [(10000, 10000), (10001, 10001)] ?_ ?_)
  · rfl
  · rfl
def lnM (n : Ln) (k : Int) : Int := k + n.d.ord.length + n.d.bel.length + n.sv.ord.length + n.sv.bel.length + 4 * n.wire.length
/-- A line's lists, as they are marked. -/
def mkLn (n : Ln) (k : Int) : Ln := { n with
  d := ⟨n.d.life, mk1 k n.d.ord.length, n.d.sure, mk1 (k + n.d.ord.length) n.d.bel.length⟩
  sv := ⟨n.sv.life, mk1 (k + n.d.ord.length + n.d.bel.length) n.sv.ord.length, n.sv.sure, mk1 (k + n.d.ord.length + n.d.bel.length + n.sv.ord.length) n.sv.bel.length⟩
  wire := mkPk (k + n.d.ord.length + n.d.bel.length + n.sv.ord.length + n.sv.bel.length) n.wire.length }
def lnHp (n : Ln) (a b c d e : Nat) : Heap := [(a, i64C n.d.ord), (b, i64C n.d.bel), (c, i64C n.sv.ord), (d, i64C n.sv.bel), (e, wrC n.wire)]
theorem laws_markLine {n : Ln} {k : Int} (hk : 0 ≤ k) (hl : lnM n k ≤ 4611686018427387904) :
    HC Tryz.prog 22 [laS n 10000 10001 10002 10003 10004, .d (.int .i64 k)] (lnHp n 10000 10001 10002 10003 10004) (.d (.int .i64 (lnM n k))) (lnHp (mkLn n k) 10000 10001 10002 10003 10004) := by
  unfold lnM at *
  have c1 := laws_markDesk (d := n.d) (k := k) hk (by omega)
  have c2 := laws_markDesk (d := n.sv) (k := k + n.d.ord.length + n.d.bel.length) (by omega) (by omega)
  have c3 := laws_markPacketS (l := n.wire) (k := k + n.d.ord.length + n.d.bel.length + n.sv.ord.length + n.sv.bel.length) (by omega) (by omega)
  unfold lnHp laS mkLn skL i64C wrC at *
  dsimp only
  refine hc_intro tabIs _ Tryz.func22 rfl rfl Tryz.ntmps22 rfl rfl rfl ?_ fun w0 ok0 XM XA anc => ?_
  · exact likeIn_cons rfl ⟨rfl, rfl, by simp [mk1_length]⟩ (likeIn_cons rfl ⟨rfl, rfl, by simp [mk1_length]⟩ (likeIn_cons rfl ⟨rfl, rfl, by simp [mk1_length]⟩ (likeIn_cons rfl ⟨rfl, rfl, by simp [mk1_length]⟩ (likeIn_cons rfl ⟨rfl, rfl, by simp [mkPk_len]⟩ likeIn_nil))))
  repeat (first | refine awp_seq ?_ | refine then_n ?_ | refine then_r ?_ | refine then_x ?_ | refine block_n ?_ | refine block_r ?_ | refine block_x ?_ | refine u_y ?_ | refine loop_r ?_ | refine loop_x ?_ | refine awp_region ?_ | refine awpL_nil ?_ | refine awpQL_nil ?_ | refine awp_block ?_ | refine awp_skip ?_ | refine awp_exit ?_ | refine awp_label ?_ | refine u_dT ?_ | refine u_d ?_ | refine u_l ?_ | refine u_o ?_ | refine u_q ?_ | refine u_lr ?_ | refine u_qr ?_ | refine u_ls ?_ | refine u_qs ?_ | refine u_t ?_ | refine u_f ?_ | refine v_s ?_ | refine v_o ?_ | refine v_on ?_ | refine v_og ?_ | refine v_q ?_ | refine v_sr ?_ | refine v_k ?_ | refine m_nil ?_)
  refine hcl [(10000, 10000), (10001, 10001)] [(10000, 10000), (10001, 10001)] c1 ?_
  repeat (first | refine awp_seq ?_ | refine then_n ?_ | refine then_r ?_ | refine then_x ?_ | refine block_n ?_ | refine block_r ?_ | refine block_x ?_ | refine u_y ?_ | refine loop_r ?_ | refine loop_x ?_ | refine awp_region ?_ | refine awpL_nil ?_ | refine awpQL_nil ?_ | refine awp_block ?_ | refine awp_skip ?_ | refine awp_exit ?_ | refine awp_label ?_ | refine u_dT ?_ | refine u_d ?_ | refine u_l ?_ | refine u_o ?_ | refine u_q ?_ | refine u_lr ?_ | refine u_qr ?_ | refine u_ls ?_ | refine u_qs ?_ | refine u_t ?_ | refine u_f ?_ | refine v_s ?_ | refine v_o ?_ | refine v_on ?_ | refine v_og ?_ | refine v_q ?_ | refine v_sr ?_ | refine v_k ?_ | refine m_nil ?_)
  refine hcl [(10002, 10000), (10003, 10001)] [(10000, 10002), (10001, 10003)] c2 ?_
  repeat (first | refine awp_seq ?_ | refine then_n ?_ | refine then_r ?_ | refine then_x ?_ | refine block_n ?_ | refine block_r ?_ | refine block_x ?_ | refine u_y ?_ | refine loop_r ?_ | refine loop_x ?_ | refine awp_region ?_ | refine awpL_nil ?_ | refine awpQL_nil ?_ | refine awp_block ?_ | refine awp_skip ?_ | refine awp_exit ?_ | refine awp_label ?_ | refine u_dT ?_ | refine u_d ?_ | refine u_l ?_ | refine u_o ?_ | refine u_q ?_ | refine u_lr ?_ | refine u_qr ?_ | refine u_ls ?_ | refine u_qs ?_ | refine u_t ?_ | refine u_f ?_ | refine v_s ?_ | refine v_o ?_ | refine v_on ?_ | refine v_og ?_ | refine v_q ?_ | refine v_sr ?_ | refine v_k ?_ | refine m_nil ?_)
  refine hcl [(10004, 10000)] [(10000, 10004)] c3 ?_
  repeat (first | refine awp_seq ?_ | refine then_n ?_ | refine then_r ?_ | refine then_x ?_ | refine block_n ?_ | refine block_r ?_ | refine block_x ?_ | refine u_y ?_ | refine loop_r ?_ | refine loop_x ?_ | refine awp_region ?_ | refine awpL_nil ?_ | refine awpQL_nil ?_ | refine awp_block ?_ | refine awp_skip ?_ | refine awp_exit ?_ | refine awp_label ?_ | refine u_dT ?_ | refine u_d ?_ | refine u_l ?_ | refine u_o ?_ | refine u_q ?_ | refine u_lr ?_ | refine u_qr ?_ | refine u_ls ?_ | refine u_qs ?_ | refine u_t ?_ | refine u_f ?_ | refine v_s ?_ | refine v_o ?_ | refine v_on ?_ | refine v_og ?_ | refine v_q ?_ | refine v_sr ?_ | refine v_k ?_ | refine m_nil ?_)
  (refine awp_ret ?_; (repeat (first | refine then_r ?_ | refine block_r ?_ | refine loop_r ?_)); refine u_rH [(10000, 10000), (10001, 10001), (10002, 10002), (10003, 10003), (10004, 10004)] ?_ ?_)
  · rfl
  · rfl
theorem laws_heldDesk {d : Dsk} {n m : Nat} {k : Int} (hk : 0 ≤ k) (hl : k + n + m ≤ 4611686018427387904) (h1 : d.ord = mk1 k n) (h2 : d.bel = mk1 (k + n) m) : AC Tryz.prog 59 [dskD d, .int .i64 k] (.int .i64 (k + n + m)) := by
  have c1 := laws_heldInt64S (n := n) (k := k) hk (by omega)
  have c2 := laws_heldInt64S (n := m) (k := k + n) (by omega) (by omega)
  unfold dskD dskL
  rw [h1, h2]
  refine ac_intro tabIs _ Tryz.func59 rfl rfl Tryz.ntmps59 rfl rfl fun w0 ok0 => ?_
  repeat (first | refine awp_seq ?_ | refine then_n ?_ | refine then_r ?_ | refine then_x ?_ | refine block_n ?_ | refine block_r ?_ | refine block_x ?_ | refine u_y ?_ | refine loop_r ?_ | refine loop_x ?_ | refine awp_region ?_ | refine awpL_nil ?_ | refine awpQL_nil ?_ | refine awp_block ?_ | refine awp_skip ?_ | refine awp_exit ?_ | refine awp_label ?_ | refine u_dT ?_ | refine u_d ?_ | ((first | apply c_l | apply c_q | apply c_lr | apply c_qr); (iterate 2 exact rfl); (focus (first | exact c1)); (iterate 2 exact rfl)) | (apply v_c; (iterate 4 exact rfl); (focus (first | exact c1)); (iterate 2 exact rfl)) | refine u_l ?_ | refine u_o ?_ | refine u_q ?_ | refine u_lr ?_ | refine u_qr ?_ | refine u_ls ?_ | refine u_qs ?_ | refine u_t ?_ | refine u_f ?_ | refine v_s ?_ | refine v_o ?_ | refine v_on ?_ | refine v_og ?_ | refine v_q ?_ | refine v_sr ?_ | refine v_k ?_ | refine m_nil ?_ | refine u_glt ?_ | refine u_glf ?_ | refine u_gqt ?_ | refine u_gqf ?_)
  repeat (first | refine awp_seq ?_ | refine then_n ?_ | refine then_r ?_ | refine then_x ?_ | refine block_n ?_ | refine block_r ?_ | refine block_x ?_ | refine u_y ?_ | refine loop_r ?_ | refine loop_x ?_ | refine awp_region ?_ | refine awpL_nil ?_ | refine awpQL_nil ?_ | refine awp_block ?_ | refine awp_skip ?_ | refine awp_exit ?_ | refine awp_label ?_ | refine u_dT ?_ | refine u_d ?_ | ((first | apply c_l | apply c_q | apply c_lr | apply c_qr); (iterate 2 exact rfl); (focus (first | exact c2)); (iterate 2 exact rfl)) | (apply v_c; (iterate 4 exact rfl); (focus (first | exact c2)); (iterate 2 exact rfl)) | refine u_l ?_ | refine u_o ?_ | refine u_q ?_ | refine u_lr ?_ | refine u_qr ?_ | refine u_ls ?_ | refine u_qs ?_ | refine u_t ?_ | refine u_f ?_ | refine v_s ?_ | refine v_o ?_ | refine v_on ?_ | refine v_og ?_ | refine v_q ?_ | refine v_sr ?_ | refine v_k ?_ | refine m_nil ?_ | refine u_glt ?_ | refine u_glf ?_ | refine u_gqt ?_ | refine u_gqf ?_)
  (refine awp_ret ?_; (repeat (first | refine then_r ?_ | refine block_r ?_ | refine loop_r ?_)); apply ret_ok (.inr rfl); (focus exact rfl))
  rfl
theorem laws_heldPacketS {n : Nat} {k : Int} (hk : 0 ≤ k) (hl : k + 4 * n ≤ 4611686018427387904) : AC Tryz.prog 60 [.lst ((mkPk k n).map pkD), .int .i64 k] (.int .i64 (k + 4 * n)) := by
  have hlen := mkPk_len n k
  have hle : ((mkPk k n).map pkD).length = n := by simp [hlen]
  refine ac_intro tabIs _ Tryz.func60 rfl rfl Tryz.ntmps60 rfl rfl fun w0 ok0 => ?_
  repeat (first | refine awp_seq ?_ | refine then_n ?_ | refine then_r ?_ | refine then_x ?_ | refine block_n ?_ | refine block_r ?_ | refine block_x ?_ | refine u_y ?_ | refine loop_r ?_ | refine loop_x ?_ | refine awp_region ?_ | refine awpL_nil ?_ | refine awpQL_nil ?_ | refine awp_block ?_ | refine awp_skip ?_ | refine awp_exit ?_ | refine awp_label ?_ | refine u_dT ?_ | refine u_d ?_ | refine u_l ?_ | refine u_o ?_ | refine u_q ?_ | refine u_lr ?_ | refine u_qr ?_ | refine u_ls ?_ | refine u_qs ?_ | refine u_t ?_ | refine u_f ?_ | refine v_s ?_ | refine v_o ?_ | refine v_on ?_ | refine v_og ?_ | refine v_q ?_ | refine v_sr ?_ | refine v_k ?_ | refine m_nil ?_)
  refine awp_loop (fun i : Nat => i ≤ n) (fun i => [(0, .d (.lst ((mkPk k n).map pkD))), (1, .d (.int .i64 (k + 4 * i))), (5, .d (.int .i64 i))]) (fun _ => []) (fun i => n - i) 0 (by simp) ?_ rfl ?_
  · refine ⟨rfl, ?_, rfl, trivial⟩
    simp [lk, args0]
  · intro i hi
    by_cases hlt : i < n
    · have hx : ((mkPk k n).map pkD)[(i : Int).toNat]? = some (.agg [.bool (decide ((k + 4 * (i : Int)) % 3 = 0)), .int .i64 (k + 4 * i + 1), .int .i64 (k + 4 * i + 1 + 1), .int .i64 (k + 4 * i + 1 + 1 + 1)]) := by
        rw [Int.toNat_natCast, List.getElem?_map, mkPk_get n k i hlt, show k + 4 * (i : Int) + 1 + 1 = k + 4 * i + 2 by omega, show k + 4 * (i : Int) + 2 + 1 = k + 4 * i + 3 by omega]
        rfl
      repeat (first | refine awp_seq ?_ | refine then_n ?_ | refine then_r ?_ | refine then_x ?_ | refine block_n ?_ | refine block_r ?_ | refine block_x ?_ | refine u_y ?_ | refine loop_r ?_ | refine loop_x ?_ | refine awp_region ?_ | refine awpL_nil ?_ | refine awpQL_nil ?_ | refine awp_block ?_ | refine awp_skip ?_ | refine awp_exit ?_ | refine awp_label ?_ | refine u_dT ?_ | refine u_d ?_ | refine u_l ?_ | refine u_o ?_ | refine u_q ?_ | refine u_lr ?_ | refine u_qr ?_ | refine u_ls ?_ | refine u_qs ?_ | refine u_t ?_ | refine u_f ?_ | refine v_s ?_ | refine v_o ?_ | refine v_on ?_ | refine v_og ?_ | refine v_q ?_ | refine v_sr ?_ | refine v_k ?_ | refine m_nil ?_)
      refine loop_n (i + 1) (by omega) ?_ rfl (by omega)
      ((repeat (first | exact trivial | (refine ⟨?_, ?_⟩; (focus (first | rfl | (simp [lk, argsS, args0]; done) | (simp [lk, argsS, args0]; omega)))))))
    · have : i = n := by omega
      subst this
      repeat (first | refine awp_seq ?_ | refine then_n ?_ | refine then_r ?_ | refine then_x ?_ | refine block_n ?_ | refine block_r ?_ | refine block_x ?_ | refine u_y ?_ | refine loop_r ?_ | refine loop_x ?_ | refine awp_region ?_ | refine awpL_nil ?_ | refine awpQL_nil ?_ | refine awp_block ?_ | refine awp_skip ?_ | refine awp_exit ?_ | refine awp_label ?_ | refine u_dT ?_ | refine u_d ?_ | refine u_l ?_ | refine u_o ?_ | refine u_q ?_ | refine u_lr ?_ | refine u_qr ?_ | refine u_ls ?_ | refine u_qs ?_ | refine u_t ?_ | refine u_f ?_ | refine v_s ?_ | refine v_o ?_ | refine v_on ?_ | refine v_og ?_ | refine v_q ?_ | refine v_sr ?_ | refine v_k ?_ | refine m_nil ?_)
      (refine awp_ret ?_; (repeat (first | refine then_r ?_ | refine block_r ?_ | refine loop_r ?_)); apply ret_ok (.inr rfl); (focus exact rfl))
      rfl
theorem laws_heldLine {n : Ln} {k : Int} (hk : 0 ≤ k) (hl : lnM n k ≤ 4611686018427387904) : AC Tryz.prog 23 [.agg (lnL (mkLn n k)), .int .i64 k] (.int .i64 (lnM n k)) := by
  unfold lnM at *
  have c1 := laws_heldDesk (d := (mkLn n k).d) (k := k) (n := n.d.ord.length) (m := n.d.bel.length) hk (by omega) rfl rfl
  have c2 := laws_heldDesk (d := (mkLn n k).sv) (k := k + n.d.ord.length + n.d.bel.length) (n := n.sv.ord.length) (m := n.sv.bel.length) (by omega) (by omega) rfl rfl
  have c3 := laws_heldPacketS (n := n.wire.length) (k := k + n.d.ord.length + n.d.bel.length + n.sv.ord.length + n.sv.bel.length) (by omega) (by omega)
  unfold lnL dskD dskL mkLn at *
  dsimp only at *
  refine ac_intro tabIs _ Tryz.func23 rfl rfl Tryz.ntmps23 rfl rfl fun w0 ok0 => ?_
  repeat (first | refine awp_seq ?_ | refine then_n ?_ | refine then_r ?_ | refine then_x ?_ | refine block_n ?_ | refine block_r ?_ | refine block_x ?_ | refine u_y ?_ | refine loop_r ?_ | refine loop_x ?_ | refine awp_region ?_ | refine awpL_nil ?_ | refine awpQL_nil ?_ | refine awp_block ?_ | refine awp_skip ?_ | refine awp_exit ?_ | refine awp_label ?_ | refine u_dT ?_ | refine u_d ?_ | ((first | apply c_l | apply c_q | apply c_lr | apply c_qr); (iterate 2 exact rfl); (focus (first | exact c1)); (iterate 2 exact rfl)) | (apply v_c; (iterate 4 exact rfl); (focus (first | exact c1)); (iterate 2 exact rfl)) | refine u_l ?_ | refine u_o ?_ | refine u_q ?_ | refine u_lr ?_ | refine u_qr ?_ | refine u_ls ?_ | refine u_qs ?_ | refine u_t ?_ | refine u_f ?_ | refine v_s ?_ | refine v_o ?_ | refine v_on ?_ | refine v_og ?_ | refine v_q ?_ | refine v_sr ?_ | refine v_k ?_ | refine m_nil ?_ | refine u_glt ?_ | refine u_glf ?_ | refine u_gqt ?_ | refine u_gqf ?_)
  repeat (first | refine awp_seq ?_ | refine then_n ?_ | refine then_r ?_ | refine then_x ?_ | refine block_n ?_ | refine block_r ?_ | refine block_x ?_ | refine u_y ?_ | refine loop_r ?_ | refine loop_x ?_ | refine awp_region ?_ | refine awpL_nil ?_ | refine awpQL_nil ?_ | refine awp_block ?_ | refine awp_skip ?_ | refine awp_exit ?_ | refine awp_label ?_ | refine u_dT ?_ | refine u_d ?_ | ((first | apply c_l | apply c_q | apply c_lr | apply c_qr); (iterate 2 exact rfl); (focus (first | exact c2)); (iterate 2 exact rfl)) | (apply v_c; (iterate 4 exact rfl); (focus (first | exact c2)); (iterate 2 exact rfl)) | refine u_l ?_ | refine u_o ?_ | refine u_q ?_ | refine u_lr ?_ | refine u_qr ?_ | refine u_ls ?_ | refine u_qs ?_ | refine u_t ?_ | refine u_f ?_ | refine v_s ?_ | refine v_o ?_ | refine v_on ?_ | refine v_og ?_ | refine v_q ?_ | refine v_sr ?_ | refine v_k ?_ | refine m_nil ?_ | refine u_glt ?_ | refine u_glf ?_ | refine u_gqt ?_ | refine u_gqf ?_)
  repeat (first | refine awp_seq ?_ | refine then_n ?_ | refine then_r ?_ | refine then_x ?_ | refine block_n ?_ | refine block_r ?_ | refine block_x ?_ | refine u_y ?_ | refine loop_r ?_ | refine loop_x ?_ | refine awp_region ?_ | refine awpL_nil ?_ | refine awpQL_nil ?_ | refine awp_block ?_ | refine awp_skip ?_ | refine awp_exit ?_ | refine awp_label ?_ | refine u_dT ?_ | refine u_d ?_ | ((first | apply c_l | apply c_q | apply c_lr | apply c_qr); (iterate 2 exact rfl); (focus (first | exact c3)); (iterate 2 exact rfl)) | (apply v_c; (iterate 4 exact rfl); (focus (first | exact c3)); (iterate 2 exact rfl)) | refine u_l ?_ | refine u_o ?_ | refine u_q ?_ | refine u_lr ?_ | refine u_qr ?_ | refine u_ls ?_ | refine u_qs ?_ | refine u_t ?_ | refine u_f ?_ | refine v_s ?_ | refine v_o ?_ | refine v_on ?_ | refine v_og ?_ | refine v_q ?_ | refine v_sr ?_ | refine v_k ?_ | refine m_nil ?_ | refine u_glt ?_ | refine u_glf ?_ | refine u_gqt ?_ | refine u_gqf ?_)
  (refine awp_ret ?_; (repeat (first | refine then_r ?_ | refine block_r ?_ | refine loop_r ?_)); apply ret_ok (.inr rfl); (focus exact rfl))
  rfl
end Go.Proofs.YtampglcgipefnaaGreat
