/- BestWord, in the reference and in the program. No condition. -/
import Derived.Test.YtkaffmojojnhhaaHb
import Derived.Test.YtkaffmojojnhhaaTb
namespace Go.Proofs.Ytkaffmojojnhhaa
open Go
attribute [local irreducible] awp awpL awpQL awpQ awpM pWalk Qt AC thenQ blockQ loopQ OpTo
set_option linter.unusedVariables false
set_option linter.unusedSimpArgs false
set_option maxHeartbeats 2000000
attribute [local irreducible] HC

/-! ### What BestWord answers -/
def cntR (F : Nat → Bool) : Nat → Nat
  | 0 => 0
  | k + 1 => cntR F k + if F k then 1 else 0
theorem cntR_le {F : Nat → Bool} : ∀ k, cntR F k ≤ k
  | 0 => Nat.le_refl _
  | k + 1 => by have := cntR_le (F := F) k; unfold cntR; split <;> omega
/-- The first one with the greatest number, and that number. -/
def bst (C : Nat → Nat) : Nat → Nat × Int
  | 0 => (0, -1)
  | i + 1 => if (bst C i).2 < (C i : Int) then (i, (C i : Int)) else bst C i
theorem bst_ok {C : Nat → Nat} {M : Nat} (hC : ∀ i, C i ≤ M) : ∀ i, (bst C i).1 ≤ i ∧ (i ≠ 0 → (bst C i).1 < i) ∧ -1 ≤ (bst C i).2 ∧ (bst C i).2 ≤ M ∧ (i ≠ 0 → (bst C i).2 = C (bst C i).1)
  | 0 => ⟨Nat.le_refl _, by simp, by simp [bst], (by show (-1 : Int) ≤ M; omega), by simp⟩
  | i + 1 => by
    obtain ⟨h1, h2, h3, h4, h5⟩ := bst_ok hC i
    have hc := hC i
    unfold bst
    split
    · exact ⟨by show i ≤ i + 1; omega, fun _ => by show i < i + 1; omega, by show (-1 : Int) ≤ C i; omega, by show (C i : Int) ≤ M; omega, fun _ => rfl⟩
    · rename_i hn
      have hi : i ≠ 0 := fun h => by subst h; simp [bst] at hn; omega
      exact ⟨by omega, fun _ => by omega, h3, h4, fun _ => h5 hi⟩
/-- The words with so many letters. -/
def lenW (n m : Nat) : List (List Int) := (upN n (gN n (m + 1))).filter fun w => !decide (¬ w.length = m)
theorem lenW_len {n m : Nat} : (lenW n m).length ≤ gN n (m + 1) := by
  unfold lenW
  exact Nat.le_trans (List.length_filter_le _ _) (by simp)
theorem lenW_mem {n m : Nat} (hn : 1 ≤ n) {w : List Int} (h : w ∈ lenW n m) : w.length = m ∧ ∀ l ∈ w, 0 ≤ l ∧ l < n := by
  unfold lenW at h
  obtain ⟨h1, h2⟩ := List.mem_filter.1 h
  refine ⟨by simpa using h2, ?_⟩
  simp only [upN, List.mem_map, List.mem_range] at h1
  obtain ⟨i, -, rfl⟩ := h1
  exact wN_el hn i
theorem lenW_ne {n m : Nat} (hn : 1 ≤ n) : 0 < (lenW n m).length := by
  have h1 : gN n m < gN n (m + 1) := by
    show gN n m < 1 + n * gN n m
    have := Nat.le_mul_of_pos_left (gN n m) hn
    omega
  have h2 := (wN_lt hn m (gN n m))
  have h3 := (wN_lt hn (m + 1) (gN n m))
  have hl : (wN n (gN n m)).length = m := by
    have a : ¬ (wN n (gN n m)).length < m := fun h => absurd (h2.1 h) (Nat.lt_irrefl _)
    have b := h3.2 h1
    omega
  refine List.length_pos_of_mem (a := wN n (gN n m)) ?_
  unfold lenW
  refine List.mem_filter.2 ⟨List.mem_map.2 ⟨gN n m, List.mem_range.2 h1, rfl⟩, by simp [hl]⟩
def cntK (s o : Int) (nx ou ws : List (List Int)) (i : Nat) : Nat := cntR (kW s o nx ou ws i) (mutN s o nx.length).toNat
def bwI (s o : Int) (nx ou : List (List Int)) (m : Nat) : Nat := (bst (cntK s o nx ou (lenW nx.length m)) (lenW nx.length m).length).1
def bwD (s o : Int) (nx ou : List (List Int)) (len : Int) : List Int × Int :=
  if machOk s o nx ou then (if inB len 0 6 then ((lenW nx.length len.toNat).getD (bwI s o nx ou len.toNat) [], 0) else ([], 2)) else ([], 1)

theorem spec_BestWord {s o len : Int} {nx ou : List (List Int)} (h1 : RowsOk nx) (h2 : RowsOk ou) : AC Try.prog 9 [mach s o nx ou, .int .i64 len] (.tup [ints (bwD s o nx ou len).1, .int .i64 (bwD s o nx ou len).2]) := by
  have e1 := spec_l06Ok (s := s) (o := o) h1 h2
  have e2 := spec_l00In (n := len) (lo := 0) (hi := 6)
  unfold bwD
  by_cases hv : machOk s o nx ou = true
  · rw [if_pos hv]
    rw [hv] at e1
    by_cases hr : inB len 0 6 = true
    · rw [if_pos hr]
      rw [hr] at e2
      have m := mv_of hv
      have hn := m.n1
      have hlen := inB_iff.1 hr
      obtain ⟨k, rfl⟩ : ∃ k : Nat, len = k := ⟨len.toNat, by omega⟩
      rw [Int.toNat_natCast]
      have hk : k ≤ 6 := by omega
      have hle : (List.map ints nx).length = nx.length := by simp
      have e3 : AC Try.prog 43 [.int .i64 (List.map ints nx).length, .int .i64 k] (rows (upN nx.length (gN nx.length (k + 1)))) := by rw [hle]; exact spec_l07Up m.n1 hk
      have hG := gN_le m.n1 (show k + 1 ≤ 7 by omega)
      have hL := lenW_len (n := nx.length) (m := k)
      have hLn := lenW_ne (m := k) hn.1
      have hb := mutN_bounds m.s1 m.o1 m.n1.2
      have hM : (mutN s o nx.length).toNat ≤ 1000 := by omega
      have e4 := spec_l07TableA (ws := lenW nx.length k) m (by omega) (fun w hw => by have := lenW_mem hn.1 hw; exact ⟨by omega, this.2⟩)
      have hC : ∀ i, cntK s o nx ou (lenW nx.length k) i ≤ (mutN s o nx.length).toNat := fun i => cntR_le _
      have hbst := bst_ok hC
      have hCd : ∀ i, cntK s o nx ou (lenW nx.length k) i = cntR (kW s o nx ou (lenW nx.length k) i) (mutN s o nx.length).toNat := fun _ => rfl
      unfold bwI
      have hLe : lenW nx.length k = (upN nx.length (gN nx.length (k + 1))).filter fun w => !decide (¬ w.length = k) := rfl
      have hUl := upN_length nx.length (gN nx.length (k + 1))
      generalize upN nx.length (gN nx.length (k + 1)) = U at *
      generalize lenW nx.length k = L at *
      generalize cntK s o nx ou L = C at *
      generalize kW s o nx ou L = F at *
      generalize (mutN s o nx.length).toNat = M at *
      have hUm : (List.map ints U).length = U.length := by simp
      have hLm : (List.map ints L).length = L.length := by simp
      have hLx : ∀ j, (U.take j).filter (fun w => !decide (¬ w.length = k)) = ((U.take j).filter fun w => !decide (¬ w.length = k)) := fun _ => rfl
      have hUt : U.take U.length = U := List.take_length
      have hMr : ∀ G : Nat → Bool, (rowB M G).length = M := fun G => rowB_length
      have hTl : ((tabB L.length M F).map D.lst).length = L.length := by simp
      unfold mach at *
      refine ac_intro tabIs _ Try.func9 rfl rfl Try.ntmps9 rfl rfl fun w0 ok0 => ?_
      repeat (first | refine v_w (t := 27) ?_ | refine awp_seq ?_ | refine then_n ?_ | refine then_r ?_ | refine then_x ?_ | refine block_n ?_ | refine block_r ?_ | refine block_x ?_ | refine u_y ?_ | refine loop_r ?_ | refine loop_x ?_ | refine awp_region ?_ | refine awpL_nil ?_ | refine awpQL_nil ?_ | refine awp_block ?_ | refine awp_skip ?_ | refine awp_exit ?_ | refine awp_label ?_ | refine u_dT ?_ | refine u_d ?_ | refine u_w (t := 27) ?_ | ((first | apply c_l | apply c_q | apply c_lr | apply c_qr); (iterate 2 exact rfl); (focus (first | exact e1 | exact e2 | exact e3)); (iterate 2 exact rfl)) | (apply v_c; (iterate 4 exact rfl); (focus (first | exact e1 | exact e2 | exact e3)); (iterate 2 exact rfl)) | refine u_l ?_ | refine u_o ?_ | refine u_q ?_ | refine u_lr ?_ | refine u_qr ?_ | refine u_ls ?_ | refine u_qs ?_ | refine u_t ?_ | refine u_f ?_ | refine v_s ?_ | refine v_o ?_ | refine v_on ?_ | refine v_og ?_ | refine v_q ?_ | refine v_sr ?_ | refine v_k ?_ | refine m_nil ?_)
      refine awp_loop (fun i : Nat => i ≤ U.length) (fun i => [(1, .d (.int .i64 k)), (2, .d (.ptr (.agg [.int .i64 s, .int .i64 o, rows nx, rows ou]))), (6, .d (rows U)), (7, .own 27), (8, .d (.int .i64 i))]) (fun i => [(27, .arr 26 1 (((U.take i).filter fun w => !decide (¬ w.length = k)).map ints))]) (fun i => U.length - i) 0 (by omega) ?_ rfl ?_
      · ((repeat (first | exact trivial | (refine ⟨?_, ?_⟩; (focus (first | rfl | (simp [lk, argsS, args0]; done) | (simp [lk, argsS, args0]; omega)))))))
      · intro i hi
        have hfl : ((U.take i).filter fun w => !decide (¬ w.length = k)).length ≤ U.length := Nat.le_trans (List.length_filter_le _ _) (by simp; omega)
        have hfm : (((U.take i).filter fun w => !decide (¬ w.length = k)).map ints).length = ((U.take i).filter fun w => !decide (¬ w.length = k)).length := by simp
        by_cases hlt : i < U.length
        · have hx := el_row hlt
          have hst : (U.take (i + 1)).filter (fun w => !decide (¬ w.length = k)) = (U.take i).filter (fun w => !decide (¬ w.length = k)) ++ if U[i].length = k then [U[i]] else [] := by
            rw [List.take_succ_eq_append_getElem hlt, List.filter_append]
            by_cases h : U[i].length = k <;> simp [h]
          have hwl : (List.map (D.int .i64) U[i]).length = U[i].length := by simp
          generalize U[i] = w at *
          generalize (U.take i).filter (fun w => !decide (¬ w.length = k)) = V at *
          by_cases hwk : w.length = k
          · rw [if_pos hwk] at hst
            repeat (first | refine awp_seq ?_ | refine then_n ?_ | refine then_r ?_ | refine then_x ?_ | refine block_n ?_ | refine block_r ?_ | refine block_x ?_ | refine u_y ?_ | refine loop_r ?_ | refine loop_x ?_ | refine awp_region ?_ | refine awpL_nil ?_ | refine awpQL_nil ?_ | refine awp_block ?_ | refine awp_skip ?_ | refine awp_exit ?_ | refine awp_label ?_ | refine u_dT ?_ | refine u_d ?_ | refine u_l ?_ | refine u_o ?_ | refine u_q ?_ | refine u_lr ?_ | refine u_qr ?_ | refine u_ls ?_ | refine u_qs ?_ | refine u_t ?_ | refine u_f ?_ | refine v_s ?_ | refine v_o ?_ | refine v_on ?_ | refine v_og ?_ | refine v_q ?_ | refine v_sr ?_ | refine v_k ?_ | refine m_nil ?_)
            refine loop_n (i + 1) (by omega) ?_ ?_ (by omega)
            · ((repeat (first | exact trivial | (refine ⟨?_, ?_⟩; (focus (first | rfl | (simp [lk, argsS, args0]; done) | (simp [lk, argsS, args0]; omega)))))))
            · rw [hst, List.map_append]; rfl
          · rw [if_neg hwk, List.append_nil] at hst
            repeat (first | refine awp_seq ?_ | refine then_n ?_ | refine then_r ?_ | refine then_x ?_ | refine block_n ?_ | refine block_r ?_ | refine block_x ?_ | refine u_y ?_ | refine loop_r ?_ | refine loop_x ?_ | refine awp_region ?_ | refine awpL_nil ?_ | refine awpQL_nil ?_ | refine awp_block ?_ | refine awp_skip ?_ | refine awp_exit ?_ | refine awp_label ?_ | refine u_dT ?_ | refine u_d ?_ | refine u_l ?_ | refine u_o ?_ | refine u_q ?_ | refine u_lr ?_ | refine u_qr ?_ | refine u_ls ?_ | refine u_qs ?_ | refine u_t ?_ | refine u_f ?_ | refine v_s ?_ | refine v_o ?_ | refine v_on ?_ | refine v_og ?_ | refine v_q ?_ | refine v_sr ?_ | refine v_k ?_ | refine m_nil ?_)
            refine loop_n (i + 1) (by omega) ?_ ?_ (by omega)
            · ((repeat (first | exact trivial | (refine ⟨?_, ?_⟩; (focus (first | rfl | (simp [lk, argsS, args0]; done) | (simp [lk, argsS, args0]; omega)))))))
            · rw [hst]
        · have hie : i = U.length := by omega
          subst hie
          rw [hUt, ← hLe]
          repeat (first | refine awp_seq ?_ | refine then_n ?_ | refine then_r ?_ | refine then_x ?_ | refine block_n ?_ | refine block_r ?_ | refine block_x ?_ | refine u_y ?_ | refine loop_r ?_ | refine loop_x ?_ | refine awp_region ?_ | refine awpL_nil ?_ | refine awpQL_nil ?_ | refine awp_block ?_ | refine awp_skip ?_ | refine awp_exit ?_ | refine awp_label ?_ | refine u_dT ?_ | refine u_d ?_ | refine u_l ?_ | refine u_o ?_ | refine u_q ?_ | refine u_lr ?_ | refine u_qr ?_ | refine u_ls ?_ | refine u_qs ?_ | refine u_t ?_ | refine u_f ?_ | refine v_s ?_ | refine v_o ?_ | refine v_on ?_ | refine v_og ?_ | refine v_q ?_ | refine v_sr ?_ | refine v_k ?_ | refine m_nil ?_)
          refine awpL_freeze 27 rfl rfl ?_
          repeat (first | refine awp_seq ?_ | refine then_n ?_ | refine then_r ?_ | refine then_x ?_ | refine block_n ?_ | refine block_r ?_ | refine block_x ?_ | refine u_y ?_ | refine loop_r ?_ | refine loop_x ?_ | refine awp_region ?_ | refine awpL_nil ?_ | refine awpQL_nil ?_ | refine awp_block ?_ | refine awp_skip ?_ | refine awp_exit ?_ | refine awp_label ?_ | refine u_dT ?_ | refine u_d ?_ | ((first | apply c_l | apply c_q | apply c_lr | apply c_qr); (iterate 2 exact rfl); (focus (first | exact e4)); (iterate 2 exact rfl)) | (apply v_c; (iterate 4 exact rfl); (focus (first | exact e4)); (iterate 2 exact rfl)) | refine u_l ?_ | refine u_o ?_ | refine u_q ?_ | refine u_lr ?_ | refine u_qr ?_ | refine u_ls ?_ | refine u_qs ?_ | refine u_t ?_ | refine u_f ?_ | refine v_s ?_ | refine v_o ?_ | refine v_on ?_ | refine v_og ?_ | refine v_q ?_ | refine v_sr ?_ | refine v_k ?_ | refine m_nil ?_)
          refine awp_loop (fun i : Nat => i ≤ L.length) (fun i => [(7, .d (rows L)), (9, .d (.lst ((tabB L.length M F).map D.lst))), (10, .d (.int .i64 (bst C i).1)), (11, .d (.int .i64 (bst C i).2)), (12, .d (.int .i64 i))]) (fun i => []) (fun i => L.length - i) 0 (by omega) ?_ rfl ?_
          · ((repeat (first | exact trivial | (refine ⟨?_, ?_⟩; (focus (first | rfl | (simp [lk, argsS, args0]; done) | (simp [lk, argsS, args0]; omega)))))))
          · intro i hi
            obtain ⟨b1, b2, b3, b4, b5⟩ := hbst i
            by_cases hlt : i < L.length
            · have hx : ((tabB L.length M F).map D.lst)[(i : Int).toNat]? = some (.lst (rowB M (F i))) := by rw [List.getElem?_map, tabB_get hlt]; rfl
              have hCi := hCd i
              have hCm := hC i
              have hst : bst C (i + 1) = if (bst C i).2 < (C i : Int) then (i, (C i : Int)) else bst C i := rfl
              generalize bst C i = p at *
              have hRl := hMr (F i)
              repeat (first | refine awp_seq ?_ | refine then_n ?_ | refine then_r ?_ | refine then_x ?_ | refine block_n ?_ | refine block_r ?_ | refine block_x ?_ | refine u_y ?_ | refine loop_r ?_ | refine loop_x ?_ | refine awp_region ?_ | refine awpL_nil ?_ | refine awpQL_nil ?_ | refine awp_block ?_ | refine awp_skip ?_ | refine awp_exit ?_ | refine awp_label ?_ | refine u_dT ?_ | refine u_d ?_ | refine u_l ?_ | refine u_o ?_ | refine u_q ?_ | refine u_lr ?_ | refine u_qr ?_ | refine u_ls ?_ | refine u_qs ?_ | refine u_t ?_ | refine u_f ?_ | refine v_s ?_ | refine v_o ?_ | refine v_on ?_ | refine v_og ?_ | refine v_q ?_ | refine v_sr ?_ | refine v_k ?_ | refine m_nil ?_)
              refine awp_loop (fun q : Nat => q ≤ M) (fun q => [(7, .d (rows L)), (9, .d (.lst ((tabB L.length M F).map D.lst))), (10, .d (.int .i64 p.1)), (11, .d (.int .i64 p.2)), (12, .d (.int .i64 i)), (13, .d (.int .i64 (cntR (F i) q))), (14, .d (.int .i64 q))]) (fun q => []) (fun q => M - q) 0 (by omega) ?_ rfl ?_
              · ((repeat (first | exact trivial | (refine ⟨?_, ?_⟩; (focus (first | rfl | (simp [lk, argsS, args0]; done) | (simp [lk, argsS, args0]; omega)))))))
              · intro q hq
                have hc := cntR_le (F := F i) q
                by_cases hql : q < M
                · have hy := rowB_get (F := F i) hql
                  have hcs : cntR (F i) (q + 1) = cntR (F i) q + if F i q then 1 else 0 := rfl
                  cases hF : F i q with
                  | true =>
                    rw [hF] at hy hcs
                    repeat (first | refine awp_seq ?_ | refine then_n ?_ | refine then_r ?_ | refine then_x ?_ | refine block_n ?_ | refine block_r ?_ | refine block_x ?_ | refine u_y ?_ | refine loop_r ?_ | refine loop_x ?_ | refine awp_region ?_ | refine awpL_nil ?_ | refine awpQL_nil ?_ | refine awp_block ?_ | refine awp_skip ?_ | refine awp_exit ?_ | refine awp_label ?_ | refine u_dT ?_ | refine u_d ?_ | refine u_l ?_ | refine u_o ?_ | refine u_q ?_ | refine u_lr ?_ | refine u_qr ?_ | refine u_ls ?_ | refine u_qs ?_ | refine u_t ?_ | refine u_f ?_ | refine v_s ?_ | refine v_o ?_ | refine v_on ?_ | refine v_og ?_ | refine v_q ?_ | refine v_sr ?_ | refine v_k ?_ | refine m_nil ?_)
                    refine loop_n (q + 1) (by omega) ?_ rfl (by omega)
                    rw [hcs, if_pos rfl, Int.natCast_add]
                    ((repeat (first | exact trivial | (refine ⟨?_, ?_⟩; (focus (first | rfl | (simp [lk, argsS, args0]; done) | (simp [lk, argsS, args0]; omega)))))))
                  | false =>
                    rw [hF] at hy hcs
                    repeat (first | refine awp_seq ?_ | refine then_n ?_ | refine then_r ?_ | refine then_x ?_ | refine block_n ?_ | refine block_r ?_ | refine block_x ?_ | refine u_y ?_ | refine loop_r ?_ | refine loop_x ?_ | refine awp_region ?_ | refine awpL_nil ?_ | refine awpQL_nil ?_ | refine awp_block ?_ | refine awp_skip ?_ | refine awp_exit ?_ | refine awp_label ?_ | refine u_dT ?_ | refine u_d ?_ | refine u_l ?_ | refine u_o ?_ | refine u_q ?_ | refine u_lr ?_ | refine u_qr ?_ | refine u_ls ?_ | refine u_qs ?_ | refine u_t ?_ | refine u_f ?_ | refine v_s ?_ | refine v_o ?_ | refine v_on ?_ | refine v_og ?_ | refine v_q ?_ | refine v_sr ?_ | refine v_k ?_ | refine m_nil ?_)
                    refine loop_n (q + 1) (by omega) ?_ rfl (by omega)
                    rw [hcs, if_neg (by simp), Nat.add_zero]
                    ((repeat (first | exact trivial | (refine ⟨?_, ?_⟩; (focus (first | rfl | (simp [lk, argsS, args0]; done) | (simp [lk, argsS, args0]; omega)))))))
                · have hqe : q = M := by omega
                  subst hqe
                  rw [← hCi]
                  by_cases hgt : p.2 < (C i : Int)
                  · rw [if_pos hgt] at hst
                    repeat (first | refine awp_seq ?_ | refine then_n ?_ | refine then_r ?_ | refine then_x ?_ | refine block_n ?_ | refine block_r ?_ | refine block_x ?_ | refine u_y ?_ | refine loop_r ?_ | refine loop_x ?_ | refine awp_region ?_ | refine awpL_nil ?_ | refine awpQL_nil ?_ | refine awp_block ?_ | refine awp_skip ?_ | refine awp_exit ?_ | refine awp_label ?_ | refine u_dT ?_ | refine u_d ?_ | refine u_l ?_ | refine u_o ?_ | refine u_q ?_ | refine u_lr ?_ | refine u_qr ?_ | refine u_ls ?_ | refine u_qs ?_ | refine u_t ?_ | refine u_f ?_ | refine v_s ?_ | refine v_o ?_ | refine v_on ?_ | refine v_og ?_ | refine v_q ?_ | refine v_sr ?_ | refine v_k ?_ | refine m_nil ?_)
                    refine loop_n (i + 1) (by omega) ?_ rfl (by omega)
                    rw [hst]
                    ((repeat (first | exact trivial | (refine ⟨?_, ?_⟩; (focus (first | rfl | (simp [lk, argsS, args0]; done) | (simp [lk, argsS, args0]; omega)))))))
                  · rw [if_neg hgt] at hst
                    repeat (first | refine awp_seq ?_ | refine then_n ?_ | refine then_r ?_ | refine then_x ?_ | refine block_n ?_ | refine block_r ?_ | refine block_x ?_ | refine u_y ?_ | refine loop_r ?_ | refine loop_x ?_ | refine awp_region ?_ | refine awpL_nil ?_ | refine awpQL_nil ?_ | refine awp_block ?_ | refine awp_skip ?_ | refine awp_exit ?_ | refine awp_label ?_ | refine u_dT ?_ | refine u_d ?_ | refine u_l ?_ | refine u_o ?_ | refine u_q ?_ | refine u_lr ?_ | refine u_qr ?_ | refine u_ls ?_ | refine u_qs ?_ | refine u_t ?_ | refine u_f ?_ | refine v_s ?_ | refine v_o ?_ | refine v_on ?_ | refine v_og ?_ | refine v_q ?_ | refine v_sr ?_ | refine v_k ?_ | refine m_nil ?_)
                    refine loop_n (i + 1) (by omega) ?_ rfl (by omega)
                    rw [hst]
                    ((repeat (first | exact trivial | (refine ⟨?_, ?_⟩; (focus (first | rfl | (simp [lk, argsS, args0]; done) | (simp [lk, argsS, args0]; omega)))))))
            · have hie : i = L.length := by omega
              subst hie
              have hlt2 := b2 (by omega)
              have hx : (L.map ints)[((bst C L.length).1 : Int).toNat]? = some (ints (L.getD (bst C L.length).1 [])) := by rw [Int.toNat_natCast]; simp [List.getD_eq_getElem?_getD, hlt2]
              repeat (first | refine awp_seq ?_ | refine then_n ?_ | refine then_r ?_ | refine then_x ?_ | refine block_n ?_ | refine block_r ?_ | refine block_x ?_ | refine u_y ?_ | refine loop_r ?_ | refine loop_x ?_ | refine awp_region ?_ | refine awpL_nil ?_ | refine awpQL_nil ?_ | refine awp_block ?_ | refine awp_skip ?_ | refine awp_exit ?_ | refine awp_label ?_ | refine u_dT ?_ | refine u_d ?_ | refine u_l ?_ | refine u_o ?_ | refine u_q ?_ | refine u_lr ?_ | refine u_qr ?_ | refine u_ls ?_ | refine u_qs ?_ | refine u_t ?_ | refine u_f ?_ | refine v_s ?_ | refine v_o ?_ | refine v_on ?_ | refine v_og ?_ | refine v_q ?_ | refine v_sr ?_ | refine v_k ?_ | refine m_nil ?_)
              (refine awp_ret ?_; (repeat (first | refine then_r ?_ | refine block_r ?_ | refine loop_r ?_)); apply ret_ok (.inr rfl); (focus exact rfl))
              rfl
    · rw [if_neg hr]
      rw [Bool.not_eq_true] at hr
      rw [hr] at e2
      unfold mach at *
      refine ac_intro tabIs _ Try.func9 rfl rfl Try.ntmps9 rfl rfl fun w0 ok0 => ?_
      repeat (first | refine awp_seq ?_ | refine then_n ?_ | refine then_r ?_ | refine then_x ?_ | refine block_n ?_ | refine block_r ?_ | refine block_x ?_ | refine u_y ?_ | refine loop_r ?_ | refine loop_x ?_ | refine awp_region ?_ | refine awpL_nil ?_ | refine awpQL_nil ?_ | refine awp_block ?_ | refine awp_skip ?_ | refine awp_exit ?_ | refine awp_label ?_ | refine u_dT ?_ | refine u_d ?_ | ((first | apply c_l | apply c_q | apply c_lr | apply c_qr); (iterate 2 exact rfl); (focus (first | exact e1 | exact e2)); (iterate 2 exact rfl)) | (apply v_c; (iterate 4 exact rfl); (focus (first | exact e1 | exact e2)); (iterate 2 exact rfl)) | refine u_l ?_ | refine u_o ?_ | refine u_q ?_ | refine u_lr ?_ | refine u_qr ?_ | refine u_ls ?_ | refine u_qs ?_ | refine u_t ?_ | refine u_f ?_ | refine v_s ?_ | refine v_o ?_ | refine v_on ?_ | refine v_og ?_ | refine v_q ?_ | refine v_sr ?_ | refine v_k ?_ | refine m_nil ?_)
      (refine awp_ret ?_; (repeat (first | refine then_r ?_ | refine block_r ?_ | refine loop_r ?_)); apply ret_ok (.inr rfl); (focus exact rfl))
      rfl
  · rw [if_neg hv]
    rw [Bool.not_eq_true] at hv
    rw [hv] at e1
    unfold mach at *
    refine ac_intro tabIs _ Try.func9 rfl rfl Try.ntmps9 rfl rfl fun w0 ok0 => ?_
    repeat (first | refine awp_seq ?_ | refine then_n ?_ | refine then_r ?_ | refine then_x ?_ | refine block_n ?_ | refine block_r ?_ | refine block_x ?_ | refine u_y ?_ | refine loop_r ?_ | refine loop_x ?_ | refine awp_region ?_ | refine awpL_nil ?_ | refine awpQL_nil ?_ | refine awp_block ?_ | refine awp_skip ?_ | refine awp_exit ?_ | refine awp_label ?_ | refine u_dT ?_ | refine u_d ?_ | ((first | apply c_l | apply c_q | apply c_lr | apply c_qr); (iterate 2 exact rfl); (focus (first | exact e1)); (iterate 2 exact rfl)) | (apply v_c; (iterate 4 exact rfl); (focus (first | exact e1)); (iterate 2 exact rfl)) | refine u_l ?_ | refine u_o ?_ | refine u_q ?_ | refine u_lr ?_ | refine u_qr ?_ | refine u_ls ?_ | refine u_qs ?_ | refine u_t ?_ | refine u_f ?_ | refine v_s ?_ | refine v_o ?_ | refine v_on ?_ | refine v_og ?_ | refine v_q ?_ | refine v_sr ?_ | refine v_k ?_ | refine m_nil ?_)
    (refine awp_ret ?_; (repeat (first | refine then_r ?_ | refine block_r ?_ | refine loop_r ?_)); apply ret_ok (.inr rfl); (focus exact rfl))
    rfl

theorem wa_loadPtr {cx : Cx} {h : Heap} {dst : Option Nat} {ty : Nat} {pos : String} {af : Array Edge} {gd : Option (Nat × Bool)} {T : Nat} {x : Operand} {tr : TR} {f : Nat → SV} {y : D} (hx : opv f x = .d (.ptr y)) (ht : tget cx.T T = some tr) (ha : tr.agg = false) (ho : y.one = true) :
    Qt cx h ⟨dst, .load T x, ty, pos, af, gd⟩ f (.d y) := qa_ev (by simp only [ev, ht, hx, evLoad, ha, ho])
theorem impl_BestWord1 {len : Int} : AC Try.prog 47 [.ptr (.int .i64 len)] (.bool (inB len 0 6)) := by
  have e1 := impl_within (n := len) (lo := 0) (hi := 6)
  refine ac_intro tabIs _ Try.func47 rfl rfl Try.ntmps47 rfl rfl fun w0 ok0 => ?_
  repeat (first | refine awp_seq ?_ | refine then_n ?_ | refine then_r ?_ | refine then_x ?_ | refine block_n ?_ | refine block_r ?_ | refine block_x ?_ | refine u_y ?_ | refine loop_r ?_ | refine loop_x ?_ | refine awp_region ?_ | refine awpL_nil ?_ | refine awpQL_nil ?_ | refine awp_block ?_ | refine awp_skip ?_ | refine awp_exit ?_ | refine awp_label ?_ | refine u_dT ?_ | refine u_d ?_ | ((first | apply c_l | apply c_q | apply c_lr | apply c_qr); (iterate 2 exact rfl); (focus (first | exact e1)); (iterate 2 exact rfl)) | (apply v_c; (iterate 4 exact rfl); (focus (first | exact e1)); (iterate 2 exact rfl)) | refine u_l ?_ | refine u_o ?_ | refine u_q ?_ | refine u_lr ?_ | refine u_qr ?_ | refine u_ls ?_ | refine u_qs ?_ | refine u_t ?_ | refine u_f ?_ | refine v_s ?_ | refine v_o ?_ | refine v_on ?_ | refine v_og ?_ | refine v_q ?_ | refine v_sr ?_ | refine v_k ?_ | refine m_nil ?_)
  (refine awp_ret ?_; (repeat (first | refine then_r ?_ | refine block_r ?_ | refine loop_r ?_)); apply ret_ok (.inr rfl); (focus exact rfl))
  rfl
theorem impl_BestWord2 {k : Nat} {w : List Int} : AC Try.prog 51 [ints w, .ptr (.int .i64 k)] (.bool (decide (¬ w.length = k))) := by
  have e1 := impl_size1 (ns := w)
  refine ac_intro tabIs _ Try.func51 rfl rfl Try.ntmps51 rfl rfl fun w0 ok0 => ?_
  repeat (first | refine awp_seq ?_ | refine then_n ?_ | refine then_r ?_ | refine then_x ?_ | refine block_n ?_ | refine block_r ?_ | refine block_x ?_ | refine u_y ?_ | refine loop_r ?_ | refine loop_x ?_ | refine awp_region ?_ | refine awpL_nil ?_ | refine awpQL_nil ?_ | refine awp_block ?_ | refine awp_skip ?_ | refine awp_exit ?_ | refine awp_label ?_ | refine u_dT ?_ | refine u_d ?_ | ((first | apply c_l | apply c_q | apply c_lr | apply c_qr); (iterate 2 exact rfl); (focus (first | exact e1)); (iterate 2 exact rfl)) | (apply v_c; (iterate 4 exact rfl); (focus (first | exact e1)); (iterate 2 exact rfl)) | refine u_l ?_ | refine u_o ?_ | refine u_q ?_ | refine u_lr ?_ | refine u_qr ?_ | refine u_ls ?_ | refine u_qs ?_ | refine u_t ?_ | refine u_f ?_ | refine v_s ?_ | refine v_o ?_ | refine v_on ?_ | refine v_og ?_ | refine v_q ?_ | refine v_sr ?_ | refine v_k ?_ | refine m_nil ?_)
  (refine awp_ret ?_; (repeat (first | refine then_r ?_ | refine block_r ?_ | refine loop_r ?_)); apply ret_ok (.inr rfl); (focus exact rfl))
  by_cases h : w.length = k
  · simp [h]
  · have : ¬ (w.length : Int) = (k : Int) := by omega
    simp [h, this]

theorem impl_BestWordH {s o len : Int} {nx ou : List (List Int)} (h1 : RowsOk nx) (h2 : RowsOk ou) :
    HC Try.prog 11 [.d (mach s o nx ou), .d (.int .i64 len)] [] (.tup [.own 30000, .d (.int .i64 (bwD s o nx ou len).2)]) [(30000, .arr 2 1 ((bwD s o nx ou len).1.map (.int .i64)))] := by
  have e1 := impl_code (s := s) (o := o) (g := 47) (cap := [.ptr (.int .i64 len)]) h1 h2 fun _ => impl_BestWord1
  unfold bwD
  by_cases hv : machOk s o nx ou = true
  · rw [if_pos hv] at e1 ⊢
    by_cases hr : inB len 0 6 = true
    · rw [if_pos hr] at e1 ⊢
      have m := mv_of hv
      have hn := m.n1
      have hlen := inB_iff.1 hr
      obtain ⟨k, rfl⟩ : ∃ k : Nat, len = k := ⟨len.toNat, by omega⟩
      rw [Int.toNat_natCast]
      have hk : k ≤ 6 := by omega
      have e2 := impl_upTo (s := s) (o := o) (ou := ou) m.n1 hk
      have hG := gN_le m.n1 (show k + 1 ≤ 7 by omega)
      have hL := lenW_len (n := nx.length) (m := k)
      have hLn := lenW_ne (m := k) hn.1
      have hb := mutN_bounds m.s1 m.o1 m.n1.2
      have hM : (mutN s o nx.length).toNat ≤ 1000 := by omega
      have e4 := impl_killsA (ws := lenW nx.length k) m (by omega) (fun w hw => by have := lenW_mem hn.1 hw; exact ⟨by omega, this.2⟩)
      have hC : ∀ i, cntK s o nx ou (lenW nx.length k) i ≤ (mutN s o nx.length).toNat := fun i => cntR_le _
      have hbst := bst_ok hC
      have hCd : ∀ i, cntK s o nx ou (lenW nx.length k) i = cntR (kW s o nx ou (lenW nx.length k) i) (mutN s o nx.length).toNat := fun _ => rfl
      unfold bwI
      have hUl := upN_length nx.length (gN nx.length (k + 1))
      have hLe : lenW nx.length k = kpG (fun w => decide (¬ w.length = k)) (upN nx.length (gN nx.length (k + 1))) (upN nx.length (gN nx.length (k + 1))) (upN nx.length (gN nx.length (k + 1))).length := by
        rw [kpG_filter _ (Nat.le_refl _), List.take_length]; rfl
      generalize upN nx.length (gN nx.length (k + 1)) = U at *
      generalize lenW nx.length k = L at *
      generalize cntK s o nx ou L = C at *
      generalize kW s o nx ou L = F at *
      generalize (mutN s o nx.length).toNat = M at *
      have hMr : ∀ G : Nat → Bool, (rowB M G).length = M := fun G => rowB_length
      have hTl : ((tabB L.length M F).map D.lst).length = L.length := by simp
      refine hc_intro tabIs _ Try.func11 rfl rfl Try.ntmps11 rfl rfl rfl ?_ fun w0 ok0 XM XA anc => ?_
      · exact likeIn_nil
      repeat (first | refine awp_seq ?_ | refine then_n ?_ | refine then_r ?_ | refine then_x ?_ | refine block_n ?_ | refine block_r ?_ | refine block_x ?_ | refine u_y ?_ | refine loop_r ?_ | refine loop_x ?_ | refine awp_region ?_ | refine awpL_nil ?_ | refine awpQL_nil ?_ | refine awp_block ?_ | refine awp_skip ?_ | refine awp_exit ?_ | refine awp_label ?_ | refine u_dT ?_ | refine u_d ?_ | ((first | apply c_l | apply c_q | apply c_lr | apply c_qr); (iterate 2 exact rfl); (focus (first | exact e1)); (iterate 2 exact rfl)) | (apply v_c; (iterate 4 exact rfl); (focus (first | exact e1)); (iterate 2 exact rfl)) | refine u_l ?_ | refine u_o ?_ | refine u_q ?_ | refine u_lr ?_ | refine u_qr ?_ | refine u_ls ?_ | refine u_qs ?_ | refine u_t ?_ | refine u_f ?_ | refine v_s ?_ | refine v_o ?_ | refine v_on ?_ | refine v_og ?_ | refine v_q ?_ | refine v_sr ?_ | refine v_k ?_ | refine m_nil ?_)
      refine hcl [] [(30000, 500)] e2 ?_
      refine awpL_tag 500 rfl rfl fun bs T => ?_
      have hbl : bs.length = U.length := by rw [T.len, rws_length]
      have hTlen : (tagL 2 1 bs (rws U)).length = U.length := by rw [tagL_length T.len, rws_length]
      have hget : ∀ (i : Nat) d, (tagL 2 1 bs (rws U))[i]? = some d → ∃ b w, bs[i]? = some b ∧ U[i]? = some w ∧ d = tagD 2 1 b (w.map (.int .i64)) ∧ (b = none → w.map (D.int .i64) = []) := fun i d hd => by
        have hi : i < U.length := by
          rcases Nat.lt_or_ge i (tagL 2 1 bs (rws U)).length with h | h
          · omega
          · simp [h] at hd
        have hb : bs[i]? = some (bs[i]'(by omega)) := List.getElem?_eq_getElem (by omega)
        have hw : U[i]? = some U[i] := List.getElem?_eq_getElem hi
        rw [tagL_get hb (rws_get hw)] at hd
        exact ⟨_, _, hb, hw, (Option.some.inj hd).symm, fun hn => tags_none T hw (by rw [hb, hn])⟩
      have hle : ∀ (i : Nat) d w, (tagL 2 1 bs (rws U))[i]? = some d → U[i]? = some w → D.Le d (ints w) := fun i d w hd hw => by
        obtain ⟨b, w', h1, h2, rfl, h4⟩ := hget i d hd
        rw [hw] at h2; cases h2
        exact tagD_le h4
      have e3 := slices_DeleteFunc (ds := tagL 2 1 bs (rws U)) (ws := U) (g := 51) (cap := [.ptr (.int .i64 k)]) (fun w => decide (¬ w.length = k)) hTlen hle (fun d hd => by
        obtain ⟨i, hi, e⟩ := List.getElem_of_mem hd
        obtain ⟨b, w, -, -, rfl, -⟩ := hget i d (by rw [List.getElem?_eq_getElem hi, e])
        cases b <;> exact ⟨rfl, rfl, rfl⟩) (by omega) (fun w _ => impl_BestWord2)
      obtain ⟨q1, q2⟩ := kpG_src (p := fun w => decide (¬ w.length = k)) (ws := U) (l := tagL 2 1 bs (rws U)) (m := U) hTlen U.length (by omega)
      have hleK := kpG_le (p := fun w => decide (¬ w.length = k)) hTlen hle
      rw [← hLe] at q1 q2 hleK
      generalize kpG (fun w => decide (¬ w.length = k)) U (tagL 2 1 bs (rws U)) U.length = K at *
      have hK : ∀ i, i < L.length → ∃ b w, K[i]? = some (tagD 2 1 b (w.map (.int .i64))) ∧ L[i]? = some w ∧ (∀ c, b = some c → w0.heap.size ≤ c) ∧ (b = none → w.map (D.int .i64) = []) := fun i hi => by
        have hx : K[i]? = some (K[i]'(by omega)) := List.getElem?_eq_getElem (by omega)
        obtain ⟨j, j1, j2⟩ := q2 i _ hx
        obtain ⟨b, w, r1, r2, r3, r4⟩ := hget j _ j1
        exact ⟨b, w, by rw [hx, r3], by rw [j2, r2], fun c hc => T.new c (by rw [← hc]; exact List.mem_of_getElem? r1), r4⟩
      have e5 : AC Try.prog 53 [mach s o nx ou, .lst K] (.lst ((tabB L.length M F).map D.lst)) := e4.le rfl fun i x y hx hy => by
        match i with
        | 0 => simp at hx hy; subst hx hy; exact .refl _
        | 1 => simp at hx hy; subst hx hy; exact hleK
        | i + 2 => simp at hx
      repeat (first | refine awp_seq ?_ | refine then_n ?_ | refine then_r ?_ | refine then_x ?_ | refine block_n ?_ | refine block_r ?_ | refine block_x ?_ | refine u_y ?_ | refine loop_r ?_ | refine loop_x ?_ | refine awp_region ?_ | refine awpL_nil ?_ | refine awpQL_nil ?_ | refine awp_block ?_ | refine awp_skip ?_ | refine awp_exit ?_ | refine awp_label ?_ | refine u_dT ?_ | refine u_d ?_ | refine u_l ?_ | refine u_o ?_ | refine u_q ?_ | refine u_lr ?_ | refine u_qr ?_ | refine u_ls ?_ | refine u_qs ?_ | refine u_t ?_ | refine u_f ?_ | refine v_s ?_ | refine v_o ?_ | refine v_on ?_ | refine v_og ?_ | refine v_q ?_ | refine v_sr ?_ | refine v_k ?_ | refine m_nil ?_)
      refine hcl [(500, 20000)] [(20000, 500)] e3 ?_
      repeat (first | refine awp_seq ?_ | refine then_n ?_ | refine then_r ?_ | refine then_x ?_ | refine block_n ?_ | refine block_r ?_ | refine block_x ?_ | refine u_y ?_ | refine loop_r ?_ | refine loop_x ?_ | refine awpL_nil ?_ | refine awpQL_nil ?_ | refine awp_block ?_ | refine awp_skip ?_ | refine awp_exit ?_ | refine awp_label ?_ | refine u_dT ?_ | refine u_d ?_ | refine u_l ?_ | refine u_o ?_ | refine u_q ?_ | refine u_lr ?_ | refine u_qr ?_ | refine u_ls ?_ | refine u_qs ?_ | refine u_t ?_ | refine u_f ?_ | refine v_s ?_ | refine v_o ?_ | refine v_on ?_ | refine v_og ?_ | refine v_q ?_ | refine v_sr ?_ | refine v_k ?_ | refine m_nil ?_)
      refine awp_freeze 500 rfl rfl ?_
      obtain ⟨b0, w1, k1, k2, -, -⟩ := hK 0 hLn
      have hone0 : (tagD 2 1 b0 (w1.map (D.int .i64))).one = true := by cases b0 <;> rfl
      obtain ⟨el0, wd0⟩ := tagD_el (e := 2) (sz := 1) (b := b0) (xs := w1.map (D.int .i64))
      have hx0 : K[(0 : Int).toNat]? = some (tagD 2 1 b0 (w1.map (.int .i64))) := k1
      have hg0 : K.getD 0 .nils = tagD 2 1 b0 (w1.map (.int .i64)) := by rw [List.getD_eq_getElem?_getD, k1]; rfl
      repeat (first | refine awp_seq ?_ | refine then_n ?_ | refine then_r ?_ | refine then_x ?_ | refine block_n ?_ | refine block_r ?_ | refine block_x ?_ | refine u_y ?_ | refine loop_r ?_ | refine loop_x ?_ | refine awp_region ?_ | refine awpL_nil ?_ | refine awpQL_nil ?_ | refine awp_block ?_ | refine awp_skip ?_ | refine awp_exit ?_ | refine awp_label ?_ | refine u_dT ?_ | refine u_d ?_ | ((first | apply x_l | apply x_q | apply x_lr | apply x_qr); (focus (first | (apply wa_index; (iterate 9 (focus (first | exact rfl | (first | assumption | omega | (simp; omega) | (simp; done) | rfl))))) | (apply wa_loadPtr; (iterate 4 (focus (first | exact rfl | (first | assumption | omega | (simp; omega) | (simp; done) | rfl))))))); exact rfl) | ((first | apply c_l | apply c_q | apply c_lr | apply c_qr); (iterate 2 exact rfl); (focus (first | exact e5)); (iterate 2 exact rfl)) | (apply v_x; (iterate 2 exact rfl); (focus (intro ok0 nw hle; (first | (apply wa_index; (iterate 9 (focus (first | exact rfl | (first | assumption | omega | (simp; omega) | (simp; done) | rfl))))) | (apply wa_loadPtr; (iterate 4 (focus (first | exact rfl | (first | assumption | omega | (simp; omega) | (simp; done) | rfl)))))))); (iterate 2 exact rfl)) | (apply v_c; (iterate 4 exact rfl); (focus (first | exact e5)); (iterate 2 exact rfl)) | refine u_l ?_ | refine u_o ?_ | refine u_q ?_ | refine u_lr ?_ | refine u_qr ?_ | refine u_ls ?_ | refine u_qs ?_ | refine u_t ?_ | refine u_f ?_ | refine v_s ?_ | refine v_o ?_ | refine v_on ?_ | refine v_og ?_ | refine v_q ?_ | refine v_sr ?_ | refine v_k ?_ | refine m_nil ?_)
      refine awp_loop (fun i : Nat => i ≤ L.length) (fun i => [(7, .d (.lst K)), (8, .d (K.getD (bst C i).1 .nils)), (9, .d (.int .i64 (bst C i).2)), (31, .d (.lst ((tabB L.length M F).map D.lst))), (32, .d (.int .i64 ((tabB L.length M F).map D.lst).length)), (33, .d (.int .i64 i))]) (fun i => []) (fun i => L.length - i) 0 (by omega) ?_ rfl ?_
      · show Subs _ [(7, .d (.lst K)), (8, .d (K.getD 0 .nils)), (9, .d (.int .i64 (-1))), (31, .d (.lst ((tabB L.length M F).map D.lst))), (32, .d (.int .i64 ((tabB L.length M F).map D.lst).length)), (33, .d (.int .i64 (0 : Nat)))]
        rw [hg0]
        ((repeat (first | exact trivial | (refine ⟨?_, ?_⟩; (focus (first | rfl | (simp [lk, argsS, args0]; done) | (simp [lk, argsS, args0]; omega)))))))
      · intro i hi
        obtain ⟨b1, b2, b3, b4, b5⟩ := hbst i
        by_cases hlt : i < L.length
        · have hx : ((tabB L.length M F).map D.lst)[(i : Int).toNat]? = some (.lst (rowB M (F i))) := by rw [List.getElem?_map, tabB_get hlt]; rfl
          have hCi := hCd i
          have hCm := hC i
          have hst : bst C (i + 1) = if (bst C i).2 < (C i : Int) then (i, (C i : Int)) else bst C i := rfl
          generalize bst C i = p at *
          have hRl := hMr (F i)
          obtain ⟨b6, w6, k6, -, -, -⟩ := hK i hlt
          have hone6 : (tagD 2 1 b6 (w6.map (D.int .i64))).one = true := by cases b6 <;> rfl
          obtain ⟨el6, wd6⟩ := tagD_el (e := 2) (sz := 1) (b := b6) (xs := w6.map (D.int .i64))
          have hx6 : K[(i : Int).toNat]? = some (tagD 2 1 b6 (w6.map (.int .i64))) := k6
          have hg6 : K.getD i .nils = tagD 2 1 b6 (w6.map (.int .i64)) := by rw [List.getD_eq_getElem?_getD, k6]; rfl
          repeat (first | refine awp_seq ?_ | refine then_n ?_ | refine then_r ?_ | refine then_x ?_ | refine block_n ?_ | refine block_r ?_ | refine block_x ?_ | refine u_y ?_ | refine loop_r ?_ | refine loop_x ?_ | refine awp_region ?_ | refine awpL_nil ?_ | refine awpQL_nil ?_ | refine awp_block ?_ | refine awp_skip ?_ | refine awp_exit ?_ | refine awp_label ?_ | refine u_dT ?_ | refine u_d ?_ | refine u_l ?_ | refine u_o ?_ | refine u_q ?_ | refine u_lr ?_ | refine u_qr ?_ | refine u_ls ?_ | refine u_qs ?_ | refine u_t ?_ | refine u_f ?_ | refine v_s ?_ | refine v_o ?_ | refine v_on ?_ | refine v_og ?_ | refine v_q ?_ | refine v_sr ?_ | refine v_k ?_ | refine m_nil ?_)
          refine awp_loop (fun q : Nat => q ≤ M) (fun q => [(7, .d (.lst K)), (8, .d (K.getD p.1 .nils)), (9, .d (.int .i64 p.2)), (10, .d (.int .i64 i)), (31, .d (.lst ((tabB L.length M F).map D.lst))), (32, .d (.int .i64 ((tabB L.length M F).map D.lst).length)), (33, .d (.int .i64 i)), (12, .d (.int .i64 (cntR (F i) q))), (38, .d (.lst (rowB M (F i)))), (39, .d (.int .i64 (rowB M (F i)).length)), (40, .d (.int .i64 q))]) (fun q => []) (fun q => M - q) 0 (by omega) ?_ rfl ?_
          · ((repeat (first | exact trivial | (refine ⟨?_, ?_⟩; (focus (first | rfl | (simp [lk, argsS, args0]; done) | (simp [lk, argsS, args0]; omega)))))))
          · intro q hq
            have hc := cntR_le (F := F i) q
            by_cases hql : q < M
            · have hy := rowB_get (F := F i) hql
              have hcs : cntR (F i) (q + 1) = cntR (F i) q + if F i q then 1 else 0 := rfl
              cases hF : F i q with
              | true =>
                rw [hF] at hy hcs
                repeat (first | refine awp_seq ?_ | refine then_n ?_ | refine then_r ?_ | refine then_x ?_ | refine block_n ?_ | refine block_r ?_ | refine block_x ?_ | refine u_y ?_ | refine loop_r ?_ | refine loop_x ?_ | refine awp_region ?_ | refine awpL_nil ?_ | refine awpQL_nil ?_ | refine awp_block ?_ | refine awp_skip ?_ | refine awp_exit ?_ | refine awp_label ?_ | refine u_dT ?_ | refine u_d ?_ | refine u_l ?_ | refine u_o ?_ | refine u_q ?_ | refine u_lr ?_ | refine u_qr ?_ | refine u_ls ?_ | refine u_qs ?_ | refine u_t ?_ | refine u_f ?_ | refine v_s ?_ | refine v_o ?_ | refine v_on ?_ | refine v_og ?_ | refine v_q ?_ | refine v_sr ?_ | refine v_k ?_ | refine m_nil ?_)
                refine loop_n (q + 1) (by omega) ?_ rfl (by omega)
                rw [hcs, if_pos rfl, Int.natCast_add]
                ((repeat (first | exact trivial | (refine ⟨?_, ?_⟩; (focus (first | rfl | (simp [lk, argsS, args0]; done) | (simp [lk, argsS, args0]; omega)))))))
              | false =>
                rw [hF] at hy hcs
                repeat (first | refine awp_seq ?_ | refine then_n ?_ | refine then_r ?_ | refine then_x ?_ | refine block_n ?_ | refine block_r ?_ | refine block_x ?_ | refine u_y ?_ | refine loop_r ?_ | refine loop_x ?_ | refine awp_region ?_ | refine awpL_nil ?_ | refine awpQL_nil ?_ | refine awp_block ?_ | refine awp_skip ?_ | refine awp_exit ?_ | refine awp_label ?_ | refine u_dT ?_ | refine u_d ?_ | refine u_l ?_ | refine u_o ?_ | refine u_q ?_ | refine u_lr ?_ | refine u_qr ?_ | refine u_ls ?_ | refine u_qs ?_ | refine u_t ?_ | refine u_f ?_ | refine v_s ?_ | refine v_o ?_ | refine v_on ?_ | refine v_og ?_ | refine v_q ?_ | refine v_sr ?_ | refine v_k ?_ | refine m_nil ?_)
                refine loop_n (q + 1) (by omega) ?_ rfl (by omega)
                rw [hcs, if_neg (by simp), Nat.add_zero]
                ((repeat (first | exact trivial | (refine ⟨?_, ?_⟩; (focus (first | rfl | (simp [lk, argsS, args0]; done) | (simp [lk, argsS, args0]; omega)))))))
            · have hqe : q = M := by omega
              subst hqe
              rw [← hCi]
              by_cases hgt : p.2 < (C i : Int)
              · rw [if_pos hgt] at hst
                repeat (first | refine awp_seq ?_ | refine then_n ?_ | refine then_r ?_ | refine then_x ?_ | refine block_n ?_ | refine block_r ?_ | refine block_x ?_ | refine u_y ?_ | refine loop_r ?_ | refine loop_x ?_ | refine awp_region ?_ | refine awpL_nil ?_ | refine awpQL_nil ?_ | refine awp_block ?_ | refine awp_skip ?_ | refine awp_exit ?_ | refine awp_label ?_ | refine u_dT ?_ | refine u_d ?_ | ((first | apply x_l | apply x_q | apply x_lr | apply x_qr); (focus (first | (apply wa_index; (iterate 9 (focus (first | exact rfl | (first | assumption | omega | (simp; omega) | (simp; done) | rfl))))) | (apply wa_loadPtr; (iterate 4 (focus (first | exact rfl | (first | assumption | omega | (simp; omega) | (simp; done) | rfl))))))); exact rfl) | (apply v_x; (iterate 2 exact rfl); (focus (intro ok0 nw hle; (first | (apply wa_index; (iterate 9 (focus (first | exact rfl | (first | assumption | omega | (simp; omega) | (simp; done) | rfl))))) | (apply wa_loadPtr; (iterate 4 (focus (first | exact rfl | (first | assumption | omega | (simp; omega) | (simp; done) | rfl)))))))); (iterate 2 exact rfl)) | refine u_l ?_ | refine u_o ?_ | refine u_q ?_ | refine u_lr ?_ | refine u_qr ?_ | refine u_ls ?_ | refine u_qs ?_ | refine u_t ?_ | refine u_f ?_ | refine v_s ?_ | refine v_o ?_ | refine v_on ?_ | refine v_og ?_ | refine v_q ?_ | refine v_sr ?_ | refine v_k ?_ | refine m_nil ?_)
                refine loop_n (i + 1) (by omega) ?_ rfl (by omega)
                rw [hst]
                show Subs _ [(7, .d (.lst K)), (8, .d (K.getD i .nils)), (9, .d (.int .i64 (C i))), (31, .d (.lst ((tabB L.length q F).map D.lst))), (32, .d (.int .i64 ((tabB L.length q F).map D.lst).length)), (33, .d (.int .i64 ((i + 1 : Nat) : Int)))]
                rw [hg6]
                ((repeat (first | exact trivial | (refine ⟨?_, ?_⟩; (focus (first | rfl | (simp [lk, argsS, args0]; done) | (simp [lk, argsS, args0]; omega)))))))
              · rw [if_neg hgt] at hst
                repeat (first | refine awp_seq ?_ | refine then_n ?_ | refine then_r ?_ | refine then_x ?_ | refine block_n ?_ | refine block_r ?_ | refine block_x ?_ | refine u_y ?_ | refine loop_r ?_ | refine loop_x ?_ | refine awp_region ?_ | refine awpL_nil ?_ | refine awpQL_nil ?_ | refine awp_block ?_ | refine awp_skip ?_ | refine awp_exit ?_ | refine awp_label ?_ | refine u_dT ?_ | refine u_d ?_ | refine u_l ?_ | refine u_o ?_ | refine u_q ?_ | refine u_lr ?_ | refine u_qr ?_ | refine u_ls ?_ | refine u_qs ?_ | refine u_t ?_ | refine u_f ?_ | refine v_s ?_ | refine v_o ?_ | refine v_on ?_ | refine v_og ?_ | refine v_q ?_ | refine v_sr ?_ | refine v_k ?_ | refine m_nil ?_)
                refine loop_n (i + 1) (by omega) ?_ rfl (by omega)
                rw [hst]
                ((repeat (first | exact trivial | (refine ⟨?_, ?_⟩; (focus (first | rfl | (simp [lk, argsS, args0]; done) | (simp [lk, argsS, args0]; omega)))))))
        · have hie : i = L.length := by omega
          subst hie
          have hlt2 := b2 (by omega)
          obtain ⟨b6, w6, k6, k7, k8, k9⟩ := hK _ hlt2
          have hg6 : K.getD (bst C L.length).1 .nils = tagD 2 1 b6 (w6.map (.int .i64)) := by rw [List.getD_eq_getElem?_getD, k6]; rfl
          have hgL : L.getD (bst C L.length).1 [] = w6 := by rw [List.getD_eq_getElem?_getD, k7]; rfl
          rw [hg6, hgL]
          repeat (first | refine awp_seq ?_ | refine then_n ?_ | refine then_r ?_ | refine then_x ?_ | refine block_n ?_ | refine block_r ?_ | refine block_x ?_ | refine u_y ?_ | refine loop_r ?_ | refine loop_x ?_ | refine awp_region ?_ | refine awpL_nil ?_ | refine awpQL_nil ?_ | refine awp_block ?_ | refine awp_skip ?_ | refine awp_exit ?_ | refine awp_label ?_ | refine u_dT ?_ | refine u_d ?_ | refine u_l ?_ | refine u_o ?_ | refine u_q ?_ | refine u_lr ?_ | refine u_qr ?_ | refine u_ls ?_ | refine u_qs ?_ | refine u_t ?_ | refine u_f ?_ | refine v_s ?_ | refine v_o ?_ | refine v_on ?_ | refine v_og ?_ | refine v_q ?_ | refine v_sr ?_ | refine v_k ?_ | refine m_nil ?_)
          cases b6 with
          | none =>
            have : w6 = [] := by simpa using k9 rfl
            subst this
            refine awp_nilSlot 4 200 2 1 rfl rfl rfl ?_
            (refine awp_ret ?_; (repeat (first | refine then_r ?_ | refine block_r ?_ | refine loop_r ?_)); refine u_rH [(200, 30000)] ?_ ?_)
            · rfl
            · rfl
          | some c =>
            refine awp_thaw 4 200 rfl (k8 c rfl) (fun x hx => by obtain ⟨v, -, rfl⟩ := List.mem_map.1 hx; rfl) rfl ?_
            (refine awp_ret ?_; (repeat (first | refine then_r ?_ | refine block_r ?_ | refine loop_r ?_)); refine u_rH [(200, 30000)] ?_ ?_)
            · rfl
            · rfl
    · rw [if_neg hr] at e1 ⊢
      refine hc_intro tabIs _ Try.func11 rfl rfl Try.ntmps11 rfl rfl rfl ?_ fun w0 ok0 XM XA anc => ?_
      · exact likeIn_nil
      repeat (first | refine awp_seq ?_ | refine then_n ?_ | refine then_r ?_ | refine then_x ?_ | refine block_n ?_ | refine block_r ?_ | refine block_x ?_ | refine u_y ?_ | refine loop_r ?_ | refine loop_x ?_ | refine awp_region ?_ | refine awpL_nil ?_ | refine awpQL_nil ?_ | refine awp_block ?_ | refine awp_skip ?_ | refine awp_exit ?_ | refine awp_label ?_ | refine u_dT ?_ | refine u_d ?_ | ((first | apply c_l | apply c_q | apply c_lr | apply c_qr); (iterate 2 exact rfl); (focus (first | exact e1)); (iterate 2 exact rfl)) | (apply v_c; (iterate 4 exact rfl); (focus (first | exact e1)); (iterate 2 exact rfl)) | refine u_l ?_ | refine u_o ?_ | refine u_q ?_ | refine u_lr ?_ | refine u_qr ?_ | refine u_ls ?_ | refine u_qs ?_ | refine u_t ?_ | refine u_f ?_ | refine v_s ?_ | refine v_o ?_ | refine v_on ?_ | refine v_og ?_ | refine v_q ?_ | refine v_sr ?_ | refine v_k ?_ | refine m_nil ?_)
      refine awp_nilSlot 4 300 2 1 rfl rfl rfl ?_
      (refine awp_ret ?_; (repeat (first | refine then_r ?_ | refine block_r ?_ | refine loop_r ?_)); refine u_rH [(300, 30000)] ?_ ?_)
      · rfl
      · rfl
  · rw [if_neg hv] at e1 ⊢
    refine hc_intro tabIs _ Try.func11 rfl rfl Try.ntmps11 rfl rfl rfl ?_ fun w0 ok0 XM XA anc => ?_
    · exact likeIn_nil
    repeat (first | refine awp_seq ?_ | refine then_n ?_ | refine then_r ?_ | refine then_x ?_ | refine block_n ?_ | refine block_r ?_ | refine block_x ?_ | refine u_y ?_ | refine loop_r ?_ | refine loop_x ?_ | refine awp_region ?_ | refine awpL_nil ?_ | refine awpQL_nil ?_ | refine awp_block ?_ | refine awp_skip ?_ | refine awp_exit ?_ | refine awp_label ?_ | refine u_dT ?_ | refine u_d ?_ | ((first | apply c_l | apply c_q | apply c_lr | apply c_qr); (iterate 2 exact rfl); (focus (first | exact e1)); (iterate 2 exact rfl)) | (apply v_c; (iterate 4 exact rfl); (focus (first | exact e1)); (iterate 2 exact rfl)) | refine u_l ?_ | refine u_o ?_ | refine u_q ?_ | refine u_lr ?_ | refine u_qr ?_ | refine u_ls ?_ | refine u_qs ?_ | refine u_t ?_ | refine u_f ?_ | refine v_s ?_ | refine v_o ?_ | refine v_on ?_ | refine v_og ?_ | refine v_q ?_ | refine v_sr ?_ | refine v_k ?_ | refine m_nil ?_)
    refine awp_nilSlot 4 300 2 1 rfl rfl rfl ?_
    (refine awp_ret ?_; (repeat (first | refine then_r ?_ | refine block_r ?_ | refine loop_r ?_)); refine u_rH [(300, 30000)] ?_ ?_)
    · rfl
    · rfl

theorem bwD_len (s o : Int) (nx ou : List (List Int)) (len : Int) : (bwD s o nx ou len).1.length ≤ 6 := by
  unfold bwD
  split
  · rename_i hv
    have m := mv_of hv
    split
    · rename_i hr
      have := inB_iff.1 hr
      have hn := m.n1
      show ((lenW nx.length len.toNat).getD (bwI s o nx ou len.toNat) []).length ≤ 6
      rw [List.getD_eq_getElem?_getD]
      cases h : (lenW nx.length len.toNat)[bwI s o nx ou len.toNat]? with
      | none => simp
      | some w =>
        have := (lenW_mem hn.1 (List.mem_of_getElem? h)).1
        show w.length ≤ 6
        omega
    · simp
  · simp

theorem law_ExactBestWord {s o len : Int} {nx ou : List (List Int)} (g1 : I64 s) (g2 : I64 o) (h1 : RowsOk nx) (h2 : RowsOk ou) (g3 : I64 len) : AC Try.prog 3 [mach s o nx ou, .int .i64 len] (.bool true) := by
  have e1 := laws_szMachine (s := s) (o := o) (left := 1048576) h1 h2 (by omega)
  have hok := szM_ok (nx := nx) (ou := ou) (left := 1048576) (by omega)
  generalize szM nx ou 1048576 = left1 at *
  obtain ⟨b1, b2, b3⟩ := hok
  by_cases hc : left1 < 0
  · unfold mach at *
    refine ac_intro tabIs _ Try.func3 rfl rfl Try.ntmps3 rfl rfl fun w0 ok0 => ?_
    repeat (first | refine awp_seq ?_ | refine then_n ?_ | refine then_r ?_ | refine then_x ?_ | refine block_n ?_ | refine block_r ?_ | refine block_x ?_ | refine u_y ?_ | refine loop_r ?_ | refine loop_x ?_ | refine awp_region ?_ | refine awpL_nil ?_ | refine awpQL_nil ?_ | refine awp_block ?_ | refine awp_skip ?_ | refine awp_exit ?_ | refine awp_label ?_ | refine u_dT ?_ | refine u_d ?_ | ((first | apply c_l | apply c_q | apply c_lr | apply c_qr); (iterate 2 exact rfl); (focus (first | exact e1)); (iterate 2 exact rfl)) | (apply v_c; (iterate 4 exact rfl); (focus (first | exact e1)); (iterate 2 exact rfl)) | refine u_l ?_ | refine u_o ?_ | refine u_q ?_ | refine u_lr ?_ | refine u_qr ?_ | refine u_ls ?_ | refine u_qs ?_ | refine u_t ?_ | refine u_f ?_ | refine v_s ?_ | refine v_o ?_ | refine v_on ?_ | refine v_og ?_ | refine v_q ?_ | refine v_sr ?_ | refine v_k ?_ | refine m_nil ?_)
    (refine awp_ret ?_; (repeat (first | refine then_r ?_ | refine block_r ?_ | refine loop_r ?_)); apply ret_ok (.inr rfl); (focus exact rfl))
    rfl
  · obtain ⟨⟨a1, a2⟩, a3, a4⟩ := b3 (by omega)
    have a1' : nx.length ≤ 1048576 := by omega
    have a2' : ∀ ns ∈ nx, ns.length ≤ 1048576 := fun ns h => by have := a2 ns h; omega
    have a3' : ou.length ≤ 1048576 := by omega
    have a4' : ∀ ns ∈ ou, ns.length ≤ 1048576 := fun ns h => by have := a4 ns h; omega
    have t1 := laws_toMachine (s := s) (o := o) a1' a2' a3' a4'
    have t3 := laws_toMachineH (s := s) (o := o) a1' a2' a3' a4'
    have f1 := spec_BestWord (s := s) (o := o) (len := len) h1 h2
    have f2 := impl_BestWordH (s := s) (o := o) (len := len) h1 h2
    have hbl := bwD_len s o nx ou len
    have T1 := tot_boundN a2'
    have T2 := tot_boundN a4'
    have T1' : tot nx ≤ 1048576 * 1048576 := Nat.le_trans T1 (Nat.mul_le_mul_right _ a1')
    have T2' : tot ou ≤ 1048576 * 1048576 := Nat.le_trans T2 (Nat.mul_le_mul_right _ a3')
    have m1 := laws_markMachine (s := s) (o := o) (nx := nx) (ou := ou) (k := 1) (by omega) (by omega) (by omega) (by omega)
    have f3' : HC Try.prog 11 ([D.agg [.int .i64 s, .int .i64 o, .lst ((rws nx).map D.lst), .lst ((rws ou).map D.lst)], .int .i64 len].map .d) [] (.tup [.own 30000, .d (.int .i64 (bwD s o nx ou len).2)]) [(30000, .arr 2 1 ((bwD s o nx ou len).1.map (.int .i64)))] := by
      rw [rws_dat, rws_dat]
      exact f2
    generalize bwD s o nx ou len = z at *
    have m3 := laws_markInt64S (xs := z.1) (k := 1) (by omega) (by omega)
    have d3 := laws_heldInt64S (n := z.1.length) (k := 1) (by omega) (by omega)
    have q1 : AC Try.prog 12 [ints z.1, ints z.1] (.bool true) := by have := laws_eqInt64S (a := z.1) (b := z.1) (by omega) (by omega); simpa using this
    have q3 : AC Try.prog 13 [.agg [.int .i64 s, .int .i64 o, .lst ((rws nx).map D.lst), .lst ((rws ou).map D.lst)], mach s o nx ou] (.bool true) := by
      have := laws_eqMachine (s := s) (o := o) (s' := s) (o' := o) h1 h2 h1 h2
      rw [rws_dat, rws_dat]
      simp only [decide_true, Bool.and_self, Bool.and_true] at this
      exact this
    refine ac_intro tabIs _ Try.func3 rfl rfl Try.ntmps3 rfl rfl fun w0 ok0 => ?_
    repeat (first | refine awp_seq ?_ | refine then_n ?_ | refine then_r ?_ | refine then_x ?_ | refine block_n ?_ | refine block_r ?_ | refine block_x ?_ | refine u_y ?_ | refine loop_r ?_ | refine loop_x ?_ | refine awp_region ?_ | refine awpL_nil ?_ | refine awpQL_nil ?_ | refine awp_block ?_ | refine awp_skip ?_ | refine awp_exit ?_ | refine awp_label ?_ | refine u_dT ?_ | refine u_d ?_ | ((first | apply c_l | apply c_q | apply c_lr | apply c_qr); (iterate 2 exact rfl); (focus (first | exact e1)); (iterate 2 exact rfl)) | (apply v_c; (iterate 4 exact rfl); (focus (first | exact e1)); (iterate 2 exact rfl)) | refine u_l ?_ | refine u_o ?_ | refine u_q ?_ | refine u_lr ?_ | refine u_qr ?_ | refine u_ls ?_ | refine u_qs ?_ | refine u_t ?_ | refine u_f ?_ | refine v_s ?_ | refine v_o ?_ | refine v_on ?_ | refine v_og ?_ | refine v_q ?_ | refine v_sr ?_ | refine v_k ?_ | refine m_nil ?_)
    (apply c_l; (iterate 2 exact rfl); (focus exact t1); (iterate 2 exact rfl))
    repeat (first | refine awp_seq ?_ | refine then_n ?_ | refine then_r ?_ | refine then_x ?_ | refine block_n ?_ | refine block_r ?_ | refine block_x ?_ | refine u_y ?_ | refine loop_r ?_ | refine loop_x ?_ | refine awp_region ?_ | refine awpL_nil ?_ | refine awpQL_nil ?_ | refine awp_block ?_ | refine awp_skip ?_ | refine awp_exit ?_ | refine awp_label ?_ | refine u_dT ?_ | refine u_d ?_ | ((first | apply c_l | apply c_q | apply c_lr | apply c_qr); (iterate 2 exact rfl); (focus (first | exact f1)); (iterate 2 exact rfl)) | (apply v_c; (iterate 4 exact rfl); (focus (first | exact f1)); (iterate 2 exact rfl)) | refine u_l ?_ | refine u_o ?_ | refine u_q ?_ | refine u_lr ?_ | refine u_qr ?_ | refine u_ls ?_ | refine u_qs ?_ | refine u_t ?_ | refine u_f ?_ | refine v_s ?_ | refine v_o ?_ | refine v_on ?_ | refine v_og ?_ | refine v_q ?_ | refine v_sr ?_ | refine v_k ?_ | refine m_nil ?_)
    refine hcl [] [(30000, 500), (30001, 501)] t3 ?_
    repeat (first | refine awp_seq ?_ | refine then_n ?_ | refine then_r ?_ | refine then_x ?_ | refine block_n ?_ | refine block_r ?_ | refine block_x ?_ | refine u_y ?_ | refine loop_r ?_ | refine loop_x ?_ | refine awp_region ?_ | refine awpL_nil ?_ | refine awpQL_nil ?_ | refine awp_block ?_ | refine awp_skip ?_ | refine awp_exit ?_ | refine awp_label ?_ | refine u_dT ?_ | refine u_d ?_ | refine u_l ?_ | refine u_o ?_ | refine u_q ?_ | refine u_lr ?_ | refine u_qr ?_ | refine u_ls ?_ | refine u_qs ?_ | refine u_t ?_ | refine u_f ?_ | refine v_s ?_ | refine v_o ?_ | refine v_on ?_ | refine v_og ?_ | refine v_q ?_ | refine v_sr ?_ | refine v_k ?_ | refine m_nil ?_)
    refine hlend (xs := [.agg [.int .i64 s, .int .i64 o, .lst ((rws nx).map D.lst), .lst ((rws ou).map D.lst)], .int .i64 len]) (cap := []) [(30000, 503)] f3' ?_ ?_ ?_
    · intro p hp
      simp at hp
      subst hp
      intro x hx
      simp at hx
      obtain ⟨a, _, rfl⟩ := hx
      rfl
    · exact ⟨trivial, rfl, trivial⟩
    repeat (first | refine awp_seq ?_ | refine then_n ?_ | refine then_r ?_ | refine then_x ?_ | refine block_n ?_ | refine block_r ?_ | refine block_x ?_ | refine u_y ?_ | refine loop_r ?_ | refine loop_x ?_ | refine awp_region ?_ | refine awpL_nil ?_ | refine awpQL_nil ?_ | refine awp_block ?_ | refine awp_skip ?_ | refine awp_exit ?_ | refine awp_label ?_ | refine u_dT ?_ | refine u_d ?_ | ((first | apply c_l | apply c_q | apply c_lr | apply c_qr); (iterate 2 exact rfl); (focus (first | exact q1 | exact q3 | exact t1)); (iterate 2 exact rfl)) | (apply v_c; (iterate 4 exact rfl); (focus (first | exact q1 | exact q3 | exact t1)); (iterate 2 exact rfl)) | refine u_l ?_ | refine u_o ?_ | refine u_q ?_ | refine u_lr ?_ | refine u_qr ?_ | refine u_ls ?_ | refine u_qs ?_ | refine u_t ?_ | refine u_f ?_ | refine v_s ?_ | refine v_o ?_ | refine v_on ?_ | refine v_og ?_ | refine v_q ?_ | refine v_sr ?_ | refine v_k ?_ | refine m_nil ?_)
    refine hcl [(500, 10000), (501, 10001)] [(10000, 500), (10001, 501)] m1 ?_
    repeat (first | refine awp_seq ?_ | refine then_n ?_ | refine then_r ?_ | refine then_x ?_ | refine block_n ?_ | refine block_r ?_ | refine block_x ?_ | refine u_y ?_ | refine loop_r ?_ | refine loop_x ?_ | refine awp_region ?_ | refine awpL_nil ?_ | refine awpQL_nil ?_ | refine awp_block ?_ | refine awp_skip ?_ | refine awp_exit ?_ | refine awp_label ?_ | refine u_dT ?_ | refine u_d ?_ | ((first | apply c_l | apply c_q | apply c_lr | apply c_qr); (iterate 2 exact rfl); (focus (first | exact q1)); (iterate 2 exact rfl)) | (apply v_c; (iterate 4 exact rfl); (focus (first | exact q1)); (iterate 2 exact rfl)) | refine u_l ?_ | refine u_o ?_ | refine u_q ?_ | refine u_lr ?_ | refine u_qr ?_ | refine u_ls ?_ | refine u_qs ?_ | refine u_t ?_ | refine u_f ?_ | refine v_s ?_ | refine v_o ?_ | refine v_on ?_ | refine v_og ?_ | refine v_q ?_ | refine v_sr ?_ | refine v_k ?_ | refine m_nil ?_)
    refine hcl [(503, 10000)] [(10000, 503)] m3 ?_
    repeat (first | refine awp_seq ?_ | refine then_n ?_ | refine then_r ?_ | refine then_x ?_ | refine block_n ?_ | refine block_r ?_ | refine block_x ?_ | refine u_y ?_ | refine loop_r ?_ | refine loop_x ?_ | refine awp_region ?_ | refine awpL_nil ?_ | refine awpQL_nil ?_ | refine awp_block ?_ | refine awp_skip ?_ | refine awp_exit ?_ | refine awp_label ?_ | refine u_dT ?_ | refine u_d ?_ | ((first | apply c_l | apply c_q | apply c_lr | apply c_qr); (iterate 2 exact rfl); (focus (first | exact d3)); (iterate 2 exact rfl)) | (apply v_c; (iterate 4 exact rfl); (focus (first | exact d3)); (iterate 2 exact rfl)) | refine u_l ?_ | refine u_o ?_ | refine u_q ?_ | refine u_lr ?_ | refine u_qr ?_ | refine u_ls ?_ | refine u_qs ?_ | refine u_t ?_ | refine u_f ?_ | refine v_s ?_ | refine v_o ?_ | refine v_on ?_ | refine v_og ?_ | refine v_q ?_ | refine v_sr ?_ | refine v_k ?_ | refine m_nil ?_)
    (apply c_l; (iterate 2 exact rfl); (focus exact t1); (iterate 2 exact rfl))
    repeat (first | refine awp_seq ?_ | refine then_n ?_ | refine then_r ?_ | refine then_x ?_ | refine block_n ?_ | refine block_r ?_ | refine block_x ?_ | refine u_y ?_ | refine loop_r ?_ | refine loop_x ?_ | refine awp_region ?_ | refine awpL_nil ?_ | refine awpQL_nil ?_ | refine awp_block ?_ | refine awp_skip ?_ | refine awp_exit ?_ | refine awp_label ?_ | refine u_dT ?_ | refine u_d ?_ | refine u_l ?_ | refine u_o ?_ | refine u_q ?_ | refine u_lr ?_ | refine u_qr ?_ | refine u_ls ?_ | refine u_qs ?_ | refine u_t ?_ | refine u_f ?_ | refine v_s ?_ | refine v_o ?_ | refine v_on ?_ | refine v_og ?_ | refine v_q ?_ | refine v_sr ?_ | refine v_k ?_ | refine m_nil ?_)
    refine hcl [] [(30000, 504)] f2 ?_
    repeat (first | refine awp_seq ?_ | refine then_n ?_ | refine then_r ?_ | refine then_x ?_ | refine block_n ?_ | refine block_r ?_ | refine block_x ?_ | refine u_y ?_ | refine loop_r ?_ | refine loop_x ?_ | refine awp_region ?_ | refine awpL_nil ?_ | refine awpQL_nil ?_ | refine awp_block ?_ | refine awp_skip ?_ | refine awp_exit ?_ | refine awp_label ?_ | refine u_dT ?_ | refine u_d ?_ | ((first | apply c_l | apply c_q | apply c_lr | apply c_qr); (iterate 2 exact rfl); (focus (first | exact q1 | exact d3)); (iterate 2 exact rfl)) | (apply v_c; (iterate 4 exact rfl); (focus (first | exact q1 | exact d3)); (iterate 2 exact rfl)) | refine u_l ?_ | refine u_o ?_ | refine u_q ?_ | refine u_lr ?_ | refine u_qr ?_ | refine u_ls ?_ | refine u_qs ?_ | refine u_t ?_ | refine u_f ?_ | refine v_s ?_ | refine v_o ?_ | refine v_on ?_ | refine v_og ?_ | refine v_q ?_ | refine v_sr ?_ | refine v_k ?_ | refine m_nil ?_)
    (refine awp_ret ?_; (repeat (first | refine then_r ?_ | refine block_r ?_ | refine loop_r ?_)); apply ret_ok (.inr rfl); (focus exact rfl))
    rfl
end Go.Proofs.Ytkaffmojojnhhaa
