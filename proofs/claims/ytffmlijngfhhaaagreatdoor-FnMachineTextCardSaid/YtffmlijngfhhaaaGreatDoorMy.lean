/- Texts of machines: what the program reads of lines. Condition: the variables of strconv are laid. -/
import Derived.Test.YtffmlijngfhhaaaGreatDoorRw
import Derived.Test.YtffmlijngfhhaaaGreatDoorSr
import Derived.Test.YtffmlijngfhhaaaGreatDoorSp
import Derived.Test.YtffmlijngfhhaaaGreatDoorPi
namespace Go.Proofs.YtffmlijngfhhaaaGreatDoor
open Go
attribute [local irreducible] awp awpL awpQL awpQ awpM pWalk Qt AC thenQ blockQ loopQ OpTo
set_option linter.unusedVariables false
set_option linter.unusedSimpArgs false
set_option maxHeartbeats 2000000
attribute [local irreducible] HC
open Go.Lib (itoa)

theorem el_strM {L : List (List UInt8)} {k : Nat} (h : k < L.length) : (L.map D.str)[((k : Nat) : Int).toNat]? = some (.str L[k]) := by simp [h]
theorem bls_memLe : ∀ {l p : List UInt8}, p ∈ bls l → p.length ≤ l.length := by
  intro l p h
  have hs : bls l = (bls l).dropLast ++ [(bls l).getLast (bls_ne l)] := (List.dropLast_concat_getLast (bls_ne l)).symm
  have h1 := congrArg List.length (bls_join l _ _ hs)
  rw [List.length_append] at h1
  rw [hs] at h
  rcases List.mem_append.1 h with h | h
  · have : ∀ (L : List (List UInt8)), p ∈ L → p.length ≤ (L.flatMap fun p => p ++ [32]).length := by
      intro L
      induction L with
      | nil => intro h; cases h
      | cons a L ih =>
        intro h
        rw [List.flatMap_cons, List.length_append, List.length_append]
        rcases List.mem_cons.1 h with rfl | h
        · omega
        · have := ih h; omega
    have := this _ h
    omega
  · simp at h
    rw [h]; omega
/-- The words of a line behind its first one. -/
def wbh (l : List UInt8) : List (List UInt8) := (bls l).drop 1
theorem wbh_data (l : List UInt8) : ((bls l).map D.str).drop ((1 : Int)).toNat = (wbh l).map .str := by
  unfold wbh
  rw [List.map_drop]
  rfl
theorem wbh_len {l : List UInt8} : (wbh l).length ≤ l.length := by
  have := bls_len l
  unfold wbh
  rw [List.length_drop]
  omega
theorem wbh_mem {l p : List UInt8} (h : p ∈ wbh l) : p.length ≤ l.length := bls_memLe (List.mem_of_mem_drop h)

theorem elsOk_strs : ∀ (L : List (List UInt8)), elsOk 1 (L.map D.str) = true
  | [] => rfl
  | y :: ys => by
    simp only [List.map_cons, elsOk, Bool.and_eq_true]
    exact ⟨⟨rfl, rfl⟩, elsOk_strs ys⟩
theorem impl_wordsBehind {l : List UInt8} (hl : l.length ≤ 1048576) : AC Tryz.prog 121 [.str l] (.lst ((wbh l).map .str)) := by
  have e1 := strings_SplitB hl
  have hml : ((bls l).map D.str).length = (bls l).length := by simp
  have hp : 1 ≤ (bls l).length := List.length_pos_iff.2 (bls_ne l)
  have hel := elsOk_strs (bls l)
  rw [← wbh_data]
  refine ac_intro tabIs _ Tryz.func121 rfl rfl Tryz.ntmps121 rfl rfl fun w0 ok0 he0 => ?_
  repeat (first | refine awp_seq ?_ | refine then_n ?_ | refine then_r ?_ | refine then_x ?_ | refine block_n ?_ | refine block_r ?_ | refine block_x ?_ | refine u_y ?_ | refine loop_r ?_ | refine loop_x ?_ | refine awp_region ?_ | refine awpL_nil ?_ | refine awpQL_nil ?_ | refine awp_block ?_ | refine awp_skip ?_ | refine awp_exit ?_ | refine awp_label ?_ | refine u_dT ?_ | refine u_d ?_ | ((first | apply x_l | apply x_q | apply x_lr | apply x_qr); (focus (first | (apply qa_slice_l; (iterate 8 (focus (first | exact rfl | (first | assumption | omega | (simp; omega) | (simp; done) | rfl))))))); exact rfl) | ((first | apply c_l | apply c_q | apply c_lr | apply c_qr); (iterate 2 exact rfl); (focus (first | exact e1)); (iterate 2 exact rfl)) | (apply v_x; (iterate 2 exact rfl); (focus (intro ok0 nw hle; (first | (apply qa_slice_l; (iterate 8 (focus (first | exact rfl | (first | assumption | omega | (simp; omega) | (simp; done) | rfl)))))))); (iterate 2 exact rfl)) | (apply v_c; (iterate 4 exact rfl); (focus (first | exact e1)); (iterate 2 exact rfl)) | refine u_l ?_ | refine u_o ?_ | refine u_q ?_ | refine u_lr ?_ | refine u_qr ?_ | refine u_ls ?_ | refine u_qs ?_ | refine u_t ?_ | refine u_f ?_ | refine v_s ?_ | refine v_o ?_ | refine v_on ?_ | refine v_og ?_ | refine v_q ?_ | refine v_sr ?_ | refine v_k ?_ | refine m_nil ?_)
  (refine awp_ret ?_; (repeat (first | refine then_r ?_ | refine block_r ?_ | refine loop_r ?_)); apply ret_ok (.inr rfl); (focus exact rfl))
  rfl
theorem impl_numbersBehind {l : List UInt8} (hl : l.length ≤ 1048576) : AC Tryz.prog 55 [.str l] (ints ((wbh l).map pint)) := by
  have e1 := strings_SplitB hl
  have hml : ((bls l).map D.str).length = (bls l).length := by simp
  have hp : 1 ≤ (bls l).length := List.length_pos_iff.2 (bls_ne l)
  have hel := elsOk_strs (bls l)
  have hd := wbh_data l
  have hwl := wbh_len (l := l)
  have hwm := fun p (h : p ∈ wbh l) => wbh_mem h
  generalize wbh l = ws at *
  have hml2 : (ws.map D.str).length = ws.length := by simp
  refine ac_intro tabIs _ Tryz.func55 rfl rfl Tryz.ntmps55 rfl rfl fun w0 ok0 he0 => ?_
  repeat (first | refine v_w (t := 8) ?_ | refine awp_seq ?_ | refine then_n ?_ | refine then_r ?_ | refine then_x ?_ | refine block_n ?_ | refine block_r ?_ | refine block_x ?_ | refine u_y ?_ | refine loop_r ?_ | refine loop_x ?_ | refine awp_region ?_ | refine awpL_nil ?_ | refine awpQL_nil ?_ | refine awp_block ?_ | refine awp_skip ?_ | refine awp_exit ?_ | refine awp_label ?_ | refine u_dT ?_ | refine u_d ?_ | refine u_w (t := 8) ?_ | ((first | apply x_l | apply x_q | apply x_lr | apply x_qr); (focus (first | (apply qa_slice_l; (iterate 8 (focus (first | exact rfl | (first | assumption | omega | (simp; omega) | (simp; done) | rfl))))))); exact rfl) | ((first | apply c_l | apply c_q | apply c_lr | apply c_qr); (iterate 2 exact rfl); (focus (first | exact e1)); (iterate 2 exact rfl)) | (apply v_x; (iterate 2 exact rfl); (focus (intro ok0 nw hle; (first | (apply qa_slice_l; (iterate 8 (focus (first | exact rfl | (first | assumption | omega | (simp; omega) | (simp; done) | rfl)))))))); (iterate 2 exact rfl)) | (apply v_c; (iterate 4 exact rfl); (focus (first | exact e1)); (iterate 2 exact rfl)) | refine u_l ?_ | refine u_o ?_ | refine u_q ?_ | refine u_lr ?_ | refine u_qr ?_ | refine u_ls ?_ | refine u_qs ?_ | refine u_t ?_ | refine u_f ?_ | refine v_s ?_ | refine v_o ?_ | refine v_on ?_ | refine v_og ?_ | refine v_q ?_ | refine v_sr ?_ | refine v_k ?_ | refine m_nil ?_)
  rw [hd]
  refine awp_loop (fun i : Nat => i ≤ ws.length) (fun i => [(3, .own 8), (11, .d (.lst (ws.map .str))), (12, .d (.int .i64 (ws.map D.str).length)), (13, .d (.int .i64 i))]) (fun i => [(8, .arr 2 1 (((ws.take i).map pint).map (.int .i64)))]) (fun i => ws.length - i) 0 (by omega) ?_ rfl ?_
  · ((repeat (first | exact trivial | (refine ⟨?_, ?_⟩; (focus (first | rfl | (simp [lk, argsS, args0]; done) | (simp [lk, argsS, args0]; omega)))))))
  · intro i hi
    by_cases hlt : i < ws.length
    · have hx := el_strM hlt
      have e2 := strconv_ParseInt (l := ws[i]) (by have := hwm _ (List.getElem_mem hlt); omega)
      have htk : (ws.take (i + 1)).map pint = (ws.take i).map pint ++ [pint ws[i]] := by rw [List.take_succ_eq_append_getElem hlt, List.map_append]; rfl
      have hlen : (((ws.take i).map pint).map (D.int .i64)).length = i := by simp; omega
      have hlen2 : ((ws.take i).map pint).length = i := by simp; omega
      generalize (ws.take i).map pint = L at *
      generalize pint ws[i] = n at *
      generalize ws[i] = x at *
      repeat (first | refine awp_seq ?_ | refine then_n ?_ | refine then_r ?_ | refine then_x ?_ | refine block_n ?_ | refine block_r ?_ | refine block_x ?_ | refine u_y ?_ | refine loop_r ?_ | refine loop_x ?_ | refine awp_region ?_ | refine awpL_nil ?_ | refine awpQL_nil ?_ | refine awp_block ?_ | refine awp_skip ?_ | refine awp_exit ?_ | refine awp_label ?_ | refine u_dT ?_ | refine u_d ?_ | refine u_l ?_ | refine u_o ?_ | refine u_q ?_ | refine u_lr ?_ | refine u_qr ?_ | refine u_ls ?_ | refine u_qs ?_ | refine u_t ?_ | refine u_f ?_ | refine v_s ?_ | refine v_o ?_ | refine v_on ?_ | refine v_og ?_ | refine v_q ?_ | refine v_sr ?_ | refine v_k ?_ | refine m_nil ?_)
      refine hcl [] [] e2 ?_
      repeat (first | refine awp_seq ?_ | refine then_n ?_ | refine then_r ?_ | refine then_x ?_ | refine block_n ?_ | refine block_r ?_ | refine block_x ?_ | refine u_y ?_ | refine loop_r ?_ | refine loop_x ?_ | refine awp_region ?_ | refine awpL_nil ?_ | refine awpQL_nil ?_ | refine awp_block ?_ | refine awp_skip ?_ | refine awp_exit ?_ | refine awp_label ?_ | refine u_dT ?_ | refine u_d ?_ | refine u_l ?_ | refine u_o ?_ | refine u_q ?_ | refine u_lr ?_ | refine u_qr ?_ | refine u_ls ?_ | refine u_qs ?_ | refine u_t ?_ | refine u_f ?_ | refine v_s ?_ | refine v_o ?_ | refine v_on ?_ | refine v_og ?_ | refine v_q ?_ | refine v_sr ?_ | refine v_k ?_ | refine m_nil ?_)
      refine loop_n (i + 1) (by omega) ?_ ?_ (by omega)
      · ((repeat (first | exact trivial | (refine ⟨?_, ?_⟩; (focus (first | rfl | (simp [lk, argsS, args0]; done) | (simp [lk, argsS, args0]; omega)))))))
      · rw [htk, List.map_append]; rfl
    · have : i = ws.length := by omega
      subst this
      rw [List.take_length]
      repeat (first | refine awp_seq ?_ | refine then_n ?_ | refine then_r ?_ | refine then_x ?_ | refine block_n ?_ | refine block_r ?_ | refine block_x ?_ | refine u_y ?_ | refine loop_r ?_ | refine loop_x ?_ | refine awp_region ?_ | refine awpL_nil ?_ | refine awpQL_nil ?_ | refine awp_block ?_ | refine awp_skip ?_ | refine awp_exit ?_ | refine awp_label ?_ | refine u_dT ?_ | refine u_d ?_ | refine u_l ?_ | refine u_o ?_ | refine u_q ?_ | refine u_lr ?_ | refine u_qr ?_ | refine u_ls ?_ | refine u_qs ?_ | refine u_t ?_ | refine u_f ?_ | refine v_s ?_ | refine v_o ?_ | refine v_on ?_ | refine v_og ?_ | refine v_q ?_ | refine v_sr ?_ | refine v_k ?_ | refine m_nil ?_)
      (refine awp_ret ?_; (repeat (first | refine then_r ?_ | refine block_r ?_ | refine loop_r ?_)); apply ret_ok (.inr rfl); (focus exact rfl))
      rfl

/-- The first number of a text, and the words of its other lines. -/
def tlN (t : List UInt8) : Int := ((wbh ((lns t).headD [])).map pint).headD 0
def tlR (t : List UInt8) : List (List UInt8) := ((lns t).drop 1).filter fun l => decide (l ≠ [])
def wbD (l : List UInt8) : D := .lst ((wbh l).map .str)
theorem lns_memM {l p : List UInt8} (h : p ∈ lns l) : p.length ≤ l.length := by
  have hs : lns l = (lns l).dropLast ++ [(lns l).getLast (lns_ne l)] := (List.dropLast_concat_getLast (lns_ne l)).symm
  have h1 := congrArg List.length (lns_join l _ _ hs)
  rw [List.length_append] at h1
  rw [hs] at h
  rcases List.mem_append.1 h with h | h
  · have : ∀ (L : List (List UInt8)), p ∈ L → p.length ≤ (L.flatMap fun p => p ++ [10]).length := by
      intro L
      induction L with
      | nil => intro h; cases h
      | cons a L ih =>
        intro h
        rw [List.flatMap_cons, List.length_append, List.length_append]
        rcases List.mem_cons.1 h with rfl | h
        · omega
        · have := ih h; omega
    have := this _ h
    omega
  · simp at h
    rw [h]; omega
theorem impl_tableLines {t : List UInt8} (ht : t.length ≤ 1000000) : AC Tryz.prog 54 [.str t] (.tup [.int .i64 (tlN t), .lst ((tlR t).map wbD)]) := by
  have e1 := strings_Split (l := t) (by omega)
  obtain ⟨a, r, hq⟩ := List.exists_cons_of_ne_nil (lns_ne t)
  have hm := fun p (h : p ∈ lns t) => lns_memM h
  have hll := lns_len t
  unfold tlN tlR
  rw [hq] at e1 hm hll ⊢
  rw [List.headD_cons, List.drop_one, List.tail_cons]
  have hal := hm a (List.mem_cons_self ..)
  have e2 := impl_numbersBehind (l := a) (by omega)
  have hx0 : ((a :: r).map D.str)[((0 : Int)).toNat]? = some (.str a) := rfl
  have hml : ((a :: r).map D.str).length = r.length + 1 := by simp
  have hel := elsOk_strs (a :: r)
  have hdr : ((a :: r).map D.str).drop ((1 : Int)).toNat = r.map .str := rfl
  have hml2 : (r.map D.str).length = r.length := by simp
  rw [List.length_cons] at hll
  have hrm : ∀ p ∈ r, p.length ≤ t.length := fun p hp => hm p (List.mem_cons_of_mem _ hp)
  generalize (a :: r).map D.str = W at *
  generalize hns : (wbh a).map pint = ns at *
  have hnl : ns.length ≤ 1000000 := by
    rw [← hns, List.length_map]
    have := wbh_len (l := a)
    omega
  have hnm : (ns.map (D.int .i64)).length = ns.length := by simp
  have hfl : ∀ i, (((r.take i).filter fun l => decide (l ≠ [])).map wbD).length ≤ i := fun i => by
    have := List.length_filter_le (fun l : List UInt8 => decide (l ≠ [])) (r.take i)
    rw [List.length_take] at this
    rw [List.length_map]
    omega
  have hx1 : ns ≠ [] → (ns.map (D.int .i64))[((0 : Int)).toNat]? = some (.int .i64 (ns.headD 0)) := fun h => by
    cases ns with
    | nil => exact absurd rfl h
    | cons x l => rfl
  have h00 : ns = [] → ns.headD 0 = 0 := fun h => by rw [h]; rfl
  generalize ns.headD 0 = n0 at *
  by_cases hn0 : ns = []
  · have hz := h00 hn0
    have hnl0 : ns.length = 0 := by rw [hn0]; rfl
    subst hz
    refine ac_intro tabIs _ Tryz.func54 rfl rfl Tryz.ntmps54 rfl rfl fun w0 ok0 he0 => ?_
    repeat (first | refine v_w (t := 12) ?_ | refine awp_seq ?_ | refine then_n ?_ | refine then_r ?_ | refine then_x ?_ | refine block_n ?_ | refine block_r ?_ | refine block_x ?_ | refine u_y ?_ | refine loop_r ?_ | refine loop_x ?_ | refine awp_region ?_ | refine awpL_nil ?_ | refine awpQL_nil ?_ | refine awp_block ?_ | refine awp_skip ?_ | refine awp_exit ?_ | refine awp_label ?_ | refine u_dT ?_ | refine u_d ?_ | refine u_w (t := 12) ?_ | ((first | apply x_l | apply x_q | apply x_lr | apply x_qr); (focus (first | (apply qa_slice_l; (iterate 8 (focus (first | exact rfl | (first | assumption | omega | (simp; omega) | (simp; done) | rfl))))))); exact rfl) | ((first | apply c_l | apply c_q | apply c_lr | apply c_qr); (iterate 2 exact rfl); (focus (first | exact e1 | exact e2)); (iterate 2 exact rfl)) | (apply v_x; (iterate 2 exact rfl); (focus (intro ok0 nw hle; (first | (apply qa_slice_l; (iterate 8 (focus (first | exact rfl | (first | assumption | omega | (simp; omega) | (simp; done) | rfl)))))))); (iterate 2 exact rfl)) | (apply v_c; (iterate 4 exact rfl); (focus (first | exact e1 | exact e2)); (iterate 2 exact rfl)) | refine u_l ?_ | refine u_o ?_ | refine u_q ?_ | refine u_lr ?_ | refine u_qr ?_ | refine u_ls ?_ | refine u_qs ?_ | refine u_t ?_ | refine u_f ?_ | refine v_s ?_ | refine v_o ?_ | refine v_on ?_ | refine v_og ?_ | refine v_q ?_ | refine v_sr ?_ | refine v_k ?_ | refine m_nil ?_)
    rw [hdr]
    refine awp_sub (s' := [(5, .d (.int .i64 0)), (6, .own 12), (24, .d (.lst (r.map .str))), (25, .d (.int .i64 (r.map D.str).length)), (26, .d (.int .i64 0))]) (by ((repeat (first | exact trivial | (refine ⟨?_, ?_⟩; (focus (first | rfl | (simp [lk, argsS, args0]; done) | (simp [lk, argsS, args0]; omega)))))))) ?_
    refine awp_loop (fun i : Nat => i ≤ r.length) (fun i => [(5, .d (.int .i64 0)), (6, .own 12), (24, .d (.lst (r.map .str))), (25, .d (.int .i64 (r.map D.str).length)), (26, .d (.int .i64 i))]) (fun i => [(12, .arr 112 1 (((r.take i).filter fun l => decide (l ≠ [])).map wbD))]) (fun i => r.length - i) 0 (by omega) ?_ rfl ?_
    · ((repeat (first | exact trivial | (refine ⟨?_, ?_⟩; (focus (first | rfl | (simp [lk, argsS, args0]; done) | (simp [lk, argsS, args0]; omega)))))))
    · intro i hi
      by_cases hlt : i < r.length
      · have hx := el_strM hlt
        have e3 := impl_wordsBehind (l := r[i]) (by have := hrm _ (List.getElem_mem hlt); omega)
        have hfi := hfl i
        have htk : (((r.take (i + 1)).filter fun l => decide (l ≠ [])).map wbD) = (((r.take i).filter fun l => decide (l ≠ [])).map wbD) ++ (if r[i] = [] then [] else [wbD r[i]]) := by
          rw [List.take_succ_eq_append_getElem hlt, List.filter_append, List.map_append]
          congr 1
          by_cases h : r[i] = []
          · rw [if_pos h]; simp [h]
          · rw [if_neg h]; simp [h]
        by_cases h0 : r[i] = []
        · rw [if_pos h0, List.append_nil] at htk
          have hd : decide (r[i] = []) = true := decide_eq_true h0
          generalize r[i] = x at *
          repeat (first | refine awp_seq ?_ | refine then_n ?_ | refine then_r ?_ | refine then_x ?_ | refine block_n ?_ | refine block_r ?_ | refine block_x ?_ | refine u_y ?_ | refine loop_r ?_ | refine loop_x ?_ | refine awp_region ?_ | refine awpL_nil ?_ | refine awpQL_nil ?_ | refine awp_block ?_ | refine awp_skip ?_ | refine awp_exit ?_ | refine awp_label ?_ | refine u_dT ?_ | refine u_d ?_ | refine u_l ?_ | refine u_o ?_ | refine u_q ?_ | refine u_lr ?_ | refine u_qr ?_ | refine u_ls ?_ | refine u_qs ?_ | refine u_t ?_ | refine u_f ?_ | refine v_s ?_ | refine v_o ?_ | refine v_on ?_ | refine v_og ?_ | refine v_q ?_ | refine v_sr ?_ | refine v_k ?_ | refine m_nil ?_ | refine u_glt ?_ | refine u_glf ?_ | refine u_gqt ?_ | refine u_gqf ?_)
          refine loop_n (i + 1) (by omega) ?_ ?_ (by omega)
          · ((repeat (first | exact trivial | (refine ⟨?_, ?_⟩; (focus (first | rfl | (simp [lk, argsS, args0]; done) | (simp [lk, argsS, args0]; omega)))))))
          · rw [htk]
        · rw [if_neg h0] at htk
          have hd : decide (r[i] = []) = false := decide_eq_false h0
          have hwd : wbD r[i] = .lst ((wbh r[i]).map .str) := rfl
          rw [hwd] at htk
          generalize wbh r[i] = wd at *
          generalize ((r.take i).filter fun l => decide (l ≠ [])).map wbD = L at *
          generalize r[i] = x at *
          repeat (first | refine awp_seq ?_ | refine then_n ?_ | refine then_r ?_ | refine then_x ?_ | refine block_n ?_ | refine block_r ?_ | refine block_x ?_ | refine u_y ?_ | refine loop_r ?_ | refine loop_x ?_ | refine awp_region ?_ | refine awpL_nil ?_ | refine awpQL_nil ?_ | refine awp_block ?_ | refine awp_skip ?_ | refine awp_exit ?_ | refine awp_label ?_ | refine u_dT ?_ | refine u_d ?_ | ((first | apply c_l | apply c_q | apply c_lr | apply c_qr); (iterate 2 exact rfl); (focus (first | exact e3)); (iterate 2 exact rfl)) | (apply v_c; (iterate 4 exact rfl); (focus (first | exact e3)); (iterate 2 exact rfl)) | refine u_l ?_ | refine u_o ?_ | refine u_q ?_ | refine u_lr ?_ | refine u_qr ?_ | refine u_ls ?_ | refine u_qs ?_ | refine u_t ?_ | refine u_f ?_ | refine v_s ?_ | refine v_o ?_ | refine v_on ?_ | refine v_og ?_ | refine v_q ?_ | refine v_sr ?_ | refine v_k ?_ | refine m_nil ?_ | refine u_glt ?_ | refine u_glf ?_ | refine u_gqt ?_ | refine u_gqf ?_)
          refine loop_n (i + 1) (by omega) ?_ ?_ (by omega)
          · ((repeat (first | exact trivial | (refine ⟨?_, ?_⟩; (focus (first | rfl | (simp [lk, argsS, args0]; done) | (simp [lk, argsS, args0]; omega)))))))
          · rw [htk]; rfl
      · have : i = r.length := by omega
        subst this
        rw [List.take_length]
        repeat (first | refine awp_seq ?_ | refine then_n ?_ | refine then_r ?_ | refine then_x ?_ | refine block_n ?_ | refine block_r ?_ | refine block_x ?_ | refine u_y ?_ | refine loop_r ?_ | refine loop_x ?_ | refine awp_region ?_ | refine awpL_nil ?_ | refine awpQL_nil ?_ | refine awp_block ?_ | refine awp_skip ?_ | refine awp_exit ?_ | refine awp_label ?_ | refine u_dT ?_ | refine u_d ?_ | refine u_l ?_ | refine u_o ?_ | refine u_q ?_ | refine u_lr ?_ | refine u_qr ?_ | refine u_ls ?_ | refine u_qs ?_ | refine u_t ?_ | refine u_f ?_ | refine v_s ?_ | refine v_o ?_ | refine v_on ?_ | refine v_og ?_ | refine v_q ?_ | refine v_sr ?_ | refine v_k ?_ | refine m_nil ?_)
        (refine awp_ret ?_; (repeat (first | refine then_r ?_ | refine block_r ?_ | refine loop_r ?_)); apply ret_ok (.inr rfl); (focus exact rfl))
        rfl
  · have hx1 := hx1 hn0
    have hnl1 : 1 ≤ ns.length := List.length_pos_iff.2 hn0
    refine ac_intro tabIs _ Tryz.func54 rfl rfl Tryz.ntmps54 rfl rfl fun w0 ok0 he0 => ?_
    repeat (first | refine v_w (t := 12) ?_ | refine awp_seq ?_ | refine then_n ?_ | refine then_r ?_ | refine then_x ?_ | refine block_n ?_ | refine block_r ?_ | refine block_x ?_ | refine u_y ?_ | refine loop_r ?_ | refine loop_x ?_ | refine awp_region ?_ | refine awpL_nil ?_ | refine awpQL_nil ?_ | refine awp_block ?_ | refine awp_skip ?_ | refine awp_exit ?_ | refine awp_label ?_ | refine u_dT ?_ | refine u_d ?_ | refine u_w (t := 12) ?_ | ((first | apply x_l | apply x_q | apply x_lr | apply x_qr); (focus (first | (apply qa_slice_l; (iterate 8 (focus (first | exact rfl | (first | assumption | omega | (simp; omega) | (simp; done) | rfl))))))); exact rfl) | ((first | apply c_l | apply c_q | apply c_lr | apply c_qr); (iterate 2 exact rfl); (focus (first | exact e1 | exact e2)); (iterate 2 exact rfl)) | (apply v_x; (iterate 2 exact rfl); (focus (intro ok0 nw hle; (first | (apply qa_slice_l; (iterate 8 (focus (first | exact rfl | (first | assumption | omega | (simp; omega) | (simp; done) | rfl)))))))); (iterate 2 exact rfl)) | (apply v_c; (iterate 4 exact rfl); (focus (first | exact e1 | exact e2)); (iterate 2 exact rfl)) | refine u_l ?_ | refine u_o ?_ | refine u_q ?_ | refine u_lr ?_ | refine u_qr ?_ | refine u_ls ?_ | refine u_qs ?_ | refine u_t ?_ | refine u_f ?_ | refine v_s ?_ | refine v_o ?_ | refine v_on ?_ | refine v_og ?_ | refine v_q ?_ | refine v_sr ?_ | refine v_k ?_ | refine m_nil ?_)
    rw [hdr]
    refine awp_sub (s' := [(5, .d (.int .i64 n0)), (6, .own 12), (24, .d (.lst (r.map .str))), (25, .d (.int .i64 (r.map D.str).length)), (26, .d (.int .i64 0))]) (by ((repeat (first | exact trivial | (refine ⟨?_, ?_⟩; (focus (first | rfl | (simp [lk, argsS, args0]; done) | (simp [lk, argsS, args0]; omega)))))))) ?_
    refine awp_loop (fun i : Nat => i ≤ r.length) (fun i => [(5, .d (.int .i64 n0)), (6, .own 12), (24, .d (.lst (r.map .str))), (25, .d (.int .i64 (r.map D.str).length)), (26, .d (.int .i64 i))]) (fun i => [(12, .arr 112 1 (((r.take i).filter fun l => decide (l ≠ [])).map wbD))]) (fun i => r.length - i) 0 (by omega) ?_ rfl ?_
    · ((repeat (first | exact trivial | (refine ⟨?_, ?_⟩; (focus (first | rfl | (simp [lk, argsS, args0]; done) | (simp [lk, argsS, args0]; omega)))))))
    · intro i hi
      by_cases hlt : i < r.length
      · have hx := el_strM hlt
        have e3 := impl_wordsBehind (l := r[i]) (by have := hrm _ (List.getElem_mem hlt); omega)
        have hfi := hfl i
        have htk : (((r.take (i + 1)).filter fun l => decide (l ≠ [])).map wbD) = (((r.take i).filter fun l => decide (l ≠ [])).map wbD) ++ (if r[i] = [] then [] else [wbD r[i]]) := by
          rw [List.take_succ_eq_append_getElem hlt, List.filter_append, List.map_append]
          congr 1
          by_cases h : r[i] = []
          · rw [if_pos h]; simp [h]
          · rw [if_neg h]; simp [h]
        by_cases h0 : r[i] = []
        · rw [if_pos h0, List.append_nil] at htk
          have hd : decide (r[i] = []) = true := decide_eq_true h0
          generalize r[i] = x at *
          repeat (first | refine awp_seq ?_ | refine then_n ?_ | refine then_r ?_ | refine then_x ?_ | refine block_n ?_ | refine block_r ?_ | refine block_x ?_ | refine u_y ?_ | refine loop_r ?_ | refine loop_x ?_ | refine awp_region ?_ | refine awpL_nil ?_ | refine awpQL_nil ?_ | refine awp_block ?_ | refine awp_skip ?_ | refine awp_exit ?_ | refine awp_label ?_ | refine u_dT ?_ | refine u_d ?_ | refine u_l ?_ | refine u_o ?_ | refine u_q ?_ | refine u_lr ?_ | refine u_qr ?_ | refine u_ls ?_ | refine u_qs ?_ | refine u_t ?_ | refine u_f ?_ | refine v_s ?_ | refine v_o ?_ | refine v_on ?_ | refine v_og ?_ | refine v_q ?_ | refine v_sr ?_ | refine v_k ?_ | refine m_nil ?_ | refine u_glt ?_ | refine u_glf ?_ | refine u_gqt ?_ | refine u_gqf ?_)
          refine loop_n (i + 1) (by omega) ?_ ?_ (by omega)
          · ((repeat (first | exact trivial | (refine ⟨?_, ?_⟩; (focus (first | rfl | (simp [lk, argsS, args0]; done) | (simp [lk, argsS, args0]; omega)))))))
          · rw [htk]
        · rw [if_neg h0] at htk
          have hd : decide (r[i] = []) = false := decide_eq_false h0
          have hwd : wbD r[i] = .lst ((wbh r[i]).map .str) := rfl
          rw [hwd] at htk
          generalize wbh r[i] = wd at *
          generalize ((r.take i).filter fun l => decide (l ≠ [])).map wbD = L at *
          generalize r[i] = x at *
          repeat (first | refine awp_seq ?_ | refine then_n ?_ | refine then_r ?_ | refine then_x ?_ | refine block_n ?_ | refine block_r ?_ | refine block_x ?_ | refine u_y ?_ | refine loop_r ?_ | refine loop_x ?_ | refine awp_region ?_ | refine awpL_nil ?_ | refine awpQL_nil ?_ | refine awp_block ?_ | refine awp_skip ?_ | refine awp_exit ?_ | refine awp_label ?_ | refine u_dT ?_ | refine u_d ?_ | ((first | apply c_l | apply c_q | apply c_lr | apply c_qr); (iterate 2 exact rfl); (focus (first | exact e3)); (iterate 2 exact rfl)) | (apply v_c; (iterate 4 exact rfl); (focus (first | exact e3)); (iterate 2 exact rfl)) | refine u_l ?_ | refine u_o ?_ | refine u_q ?_ | refine u_lr ?_ | refine u_qr ?_ | refine u_ls ?_ | refine u_qs ?_ | refine u_t ?_ | refine u_f ?_ | refine v_s ?_ | refine v_o ?_ | refine v_on ?_ | refine v_og ?_ | refine v_q ?_ | refine v_sr ?_ | refine v_k ?_ | refine m_nil ?_ | refine u_glt ?_ | refine u_glf ?_ | refine u_gqt ?_ | refine u_gqf ?_)
          refine loop_n (i + 1) (by omega) ?_ ?_ (by omega)
          · ((repeat (first | exact trivial | (refine ⟨?_, ?_⟩; (focus (first | rfl | (simp [lk, argsS, args0]; done) | (simp [lk, argsS, args0]; omega)))))))
          · rw [htk]; rfl
      · have : i = r.length := by omega
        subst this
        rw [List.take_length]
        repeat (first | refine awp_seq ?_ | refine then_n ?_ | refine then_r ?_ | refine then_x ?_ | refine block_n ?_ | refine block_r ?_ | refine block_x ?_ | refine u_y ?_ | refine loop_r ?_ | refine loop_x ?_ | refine awp_region ?_ | refine awpL_nil ?_ | refine awpQL_nil ?_ | refine awp_block ?_ | refine awp_skip ?_ | refine awp_exit ?_ | refine awp_label ?_ | refine u_dT ?_ | refine u_d ?_ | refine u_l ?_ | refine u_o ?_ | refine u_q ?_ | refine u_lr ?_ | refine u_qr ?_ | refine u_ls ?_ | refine u_qs ?_ | refine u_t ?_ | refine u_f ?_ | refine v_s ?_ | refine v_o ?_ | refine v_on ?_ | refine v_og ?_ | refine v_q ?_ | refine v_sr ?_ | refine v_k ?_ | refine m_nil ?_)
        (refine awp_ret ?_; (repeat (first | refine then_r ?_ | refine block_r ?_ | refine loop_r ?_)); apply ret_ok (.inr rfl); (focus exact rfl))
        rfl
end Go.Proofs.YtffmlijngfhhaaaGreatDoor
