/- The machine with a number, and the search for a word that tells machines apart as new memory, in the program. No condition. -/
import Derived.Test.YtkomkhigcdkpdaaEb
namespace Go.Proofs.Ytkomkhigcdkpdaa
open Go
attribute [local irreducible] awp awpL awpQL awpQ awpM pWalk Qt AC thenQ blockQ loopQ OpTo
set_option linter.unusedVariables false
set_option linter.unusedSimpArgs false
set_option maxHeartbeats 2000000
attribute [local irreducible] HC

section
variable {s o : Int} {nx ou : List (List Int)}
theorem impl_numberedH (m : MV s o nx ou) {n : Nat} {number : Int} (hn : 1 ≤ n ∧ n ≤ 10) (h0 : 0 ≤ number ∧ number ≤ 1500000) :
    HC Try.prog 91 [.d (mach s o nx ou), .d (.int .i64 n), .d (.int .i64 number)] [] (.agg [.d (.int .i64 n), .d (.int .i64 o), .own 30000, .own 30001])
      [(30000, .rows 25 2 1 (rws (numX n o nx.length number).1) none), (30001, .rows 25 2 1 (rws (numX n o nx.length number).2) none)] := by
  have ho := m.o1
  have hL := m.n1
  have hle : (List.map ints nx).length = nx.length := by simp
  have hir := iterN_range (n := (n : Int)) (o := o) (number := number) (by omega) ho.1 h0.1
  have hz : List.replicate ((n : Nat) : Int).toNat (D.int .i64 0) = (fnL n fun _ => 0).map (.int .i64) := by rw [Int.toNat_natCast]; exact fnL_zero
  have hrl : ∀ L F, (rws (tabI L n F)).length = L := fun L F => by rw [rws_length, tabI_length]
  have hfl : ∀ F, ((fnL n F).map (D.int .i64)).length = n := fun F => by simp
  unfold numX
  generalize hLL : nx.length = L at *
  refine hc_intro tabIs _ Try.func91 rfl rfl Try.ntmps91 rfl rfl rfl ?_ fun w0 ok0 XM XA anc => ?_
  · exact likeIn_nil
  repeat (first | refine awp_seq ?_ | refine then_n ?_ | refine then_r ?_ | refine then_x ?_ | refine block_n ?_ | refine block_r ?_ | refine block_x ?_ | refine u_y ?_ | refine loop_r ?_ | refine loop_x ?_ | refine awp_region ?_ | refine awpL_nil ?_ | refine awpQL_nil ?_ | refine awp_block ?_ | refine awp_skip ?_ | refine awp_exit ?_ | refine awp_label ?_ | refine u_dT ?_ | refine u_d ?_ | refine u_l ?_ | refine u_o ?_ | refine u_q ?_ | refine u_lr ?_ | refine u_qr ?_ | refine u_ls ?_ | refine u_qs ?_ | refine u_t ?_ | refine u_f ?_ | refine v_s ?_ | refine v_o ?_ | refine v_on ?_ | refine v_og ?_ | refine v_q ?_ | refine v_sr ?_ | refine v_k ?_ | refine m_nil ?_)
  refine awp_nilCell 7 2 200 25 1 (by exact rfl) (by exact rfl) rfl rfl rfl ?_
  refine awp_toRows 200 2 1 rfl rfl rfl rfl ?_
  refine awp_nilCell 7 3 201 25 1 (by exact rfl) (by exact rfl) rfl rfl rfl ?_
  refine awp_toRows 201 2 1 rfl rfl rfl rfl ?_
  refine awp_perm [(6, .box [.d (.int .i64 0), .d (.int .i64 0), .d .nils, .d .nils]), (7, .box [.d (.int .i64 n), .d (.int .i64 o), .own 200, .own 201]), (200, .rows 25 2 1 (rws (tabI 0 n fun _ _ => 0)) none), (201, .rows 25 2 1 (rws (tabI 0 n fun _ _ => 0)) none)] rfl ?_
  refine awp_loop (fun k : Nat => k ≤ L) (fun k => [(1, .d (.int .i64 n)), (2, .d (.int .i64 number)), (3, .d (.ptr (mach s o nx ou))), (6, .ref 6 0), (7, .ref 7 0), (16, .d (.int .i64 (List.map ints nx).length)), (17, .d (.int .i64 k))])
    (fun k => [(6, .box [.d (.int .i64 0), .d (.int .i64 0), .d .nils, .d .nils]), (7, .box [.d (.int .i64 n), .d (.int .i64 o), .own 200, .own 201]), (200, .rows 25 2 1 (rws (tabI k n fun _ _ => 0)) none), (201, .rows 25 2 1 (rws (tabI k n fun _ _ => 0)) none)]) (fun k => L - k) 0 (by omega) ?_ rfl ?_
  · ((repeat (first | exact trivial | (refine ⟨?_, ?_⟩; (focus (first | rfl | (simp [lk, argsS, args0]; done) | (simp [lk, argsS, args0]; omega)))))))
  · intro k hk
    have hr1 := hrl k fun _ _ => 0
    by_cases hlt : k < L
    · have hsn : rws (tabI (k + 1) n fun _ _ => 0) = rws (tabI k n fun _ _ => 0) ++ [(fnL n fun _ => 0).map (.int .i64)] := by rw [tabI_snoc]; simp [rws]
      repeat (first | refine awp_seq ?_ | refine then_n ?_ | refine then_r ?_ | refine then_x ?_ | refine block_n ?_ | refine block_r ?_ | refine block_x ?_ | refine u_y ?_ | refine loop_r ?_ | refine loop_x ?_ | refine awp_region ?_ | refine awpL_nil ?_ | refine awpQL_nil ?_ | refine awp_block ?_ | refine awp_skip ?_ | refine awp_exit ?_ | refine awp_label ?_ | refine u_l ?_ | refine u_o ?_ | refine u_q ?_ | refine u_lr ?_ | refine u_qr ?_ | refine u_ls ?_ | refine u_qs ?_ | refine u_t ?_ | refine u_f ?_ | refine v_s ?_ | refine v_o ?_ | refine v_on ?_ | refine v_og ?_ | refine v_q ?_ | refine v_sr ?_ | refine v_k ?_ | refine m_nil ?_)
      refine u_mJ [(3, [22]), (4, [22, 23]), (5, [200, 23]), (9, [28]), (10, [28, 29]), (11, [201, 29]), (13, [7]), (15, [7])] (.tk [22, 23, 28, 29] [0, 1, 2] (.tk [22, 23, 200, 28, 29] [6, 7, 8] (.fork 3 9 (.fork 4 9 (.fork 5 9 (.tk [] [9, 10] (.tk [] [11] (.tk [28, 29, 201] [12] (.tk [] [13, 14, 15] .done)))) (.fork 5 10 (.tk [] [10] (.tk [] [11] (.tk [28, 29, 201] [12] (.tk [] [13, 14, 15] .done)))) (.tk [] [5] (.tk [] [11] (.tk [28, 29, 201] [12] (.tk [] [13, 14, 15] .done)))))) (.fork 4 10 (.fork 5 10 (.tk [] [10] (.tk [] [11] (.tk [28, 29, 201] [12] (.tk [] [13, 14, 15] .done)))) (.tk [] [5] (.tk [] [11] (.tk [28, 29, 201] [12] (.tk [] [13, 14, 15] .done))))) (.tk [] [4, 5] (.tk [] [11] (.tk [28, 29, 201] [12] (.tk [] [13, 14, 15] .done)))))) (.fork 3 10 (.fork 4 10 (.fork 5 10 (.tk [] [10] (.tk [] [11] (.tk [28, 29, 201] [12] (.tk [] [13, 14, 15] .done)))) (.tk [] [5] (.tk [] [11] (.tk [28, 29, 201] [12] (.tk [] [13, 14, 15] .done))))) (.tk [] [4, 5] (.tk [] [11] (.tk [28, 29, 201] [12] (.tk [] [13, 14, 15] .done))))) (.tk [] [3, 4, 5] (.tk [] [11] (.tk [28, 29, 201] [12] (.tk [] [13, 14, 15] .done))))))))
        [(1, .d (.int .i64 n)), (2, .d (.int .i64 number)), (3, .d (.ptr (mach s o nx ou))), (6, .ref 6 0), (7, .ref 7 0), (16, .d (.int .i64 (List.map ints nx).length)), (17, .d (.int .i64 k))]
        [(6, .box [.d (.int .i64 0), .d (.int .i64 0), .d .nils, .d .nils]), (7, .box [.d (.int .i64 n), .d (.int .i64 o), .own 200, .own 201]), (200, .rows 25 2 1 (rws (tabI k n fun _ _ => 0) ++ [List.replicate ((n : Nat) : Int).toNat (D.int .i64 0)]) none), (201, .rows 25 2 1 (rws (tabI k n fun _ _ => 0) ++ [List.replicate ((n : Nat) : Int).toNat (D.int .i64 0)]) none)] ?_ ?_
      · repeat' (first | refine m_fork ?_ ?_ | refine awp_seq ?_ | refine then_n ?_ | refine then_r ?_ | refine then_x ?_ | refine block_n ?_ | refine block_r ?_ | refine block_x ?_ | refine u_y ?_ | refine loop_r ?_ | refine loop_x ?_ | refine awp_region ?_ | refine awpL_nil ?_ | refine awpQL_nil ?_ | refine awp_block ?_ | refine awp_skip ?_ | refine awp_exit ?_ | refine awp_label ?_ | refine u_dT ?_ | refine u_d ?_ | refine u_l ?_ | refine u_o ?_ | refine u_q ?_ | refine u_lr ?_ | refine u_qr ?_ | refine u_ls ?_ | refine u_qs ?_ | refine u_t ?_ | refine u_f ?_ | refine v_s ?_ | refine v_o ?_ | refine v_on ?_ | refine v_og ?_ | refine v_q ?_ | refine v_sr ?_ | refine v_k ?_ | refine m_nil ?_)
        all_goals exact ⟨by ((repeat (first | exact trivial | (refine ⟨?_, ?_⟩; (focus (first | rfl | (simp [lk, argsS, args0]; done) | (simp [lk, argsS, args0]; omega))))))), perm_of_sort rfl⟩
      rw [hz, ← hsn]
      repeat (first | refine awp_seq ?_ | refine then_n ?_ | refine then_r ?_ | refine then_x ?_ | refine block_n ?_ | refine block_r ?_ | refine block_x ?_ | refine u_y ?_ | refine loop_r ?_ | refine loop_x ?_ | refine awp_region ?_ | refine awpL_nil ?_ | refine awpQL_nil ?_ | refine awp_block ?_ | refine awp_skip ?_ | refine awp_exit ?_ | refine awp_label ?_ | refine u_dT ?_ | refine u_d ?_ | refine u_l ?_ | refine u_o ?_ | refine u_q ?_ | refine u_lr ?_ | refine u_qr ?_ | refine u_ls ?_ | refine u_qs ?_ | refine u_t ?_ | refine u_f ?_ | refine v_s ?_ | refine v_o ?_ | refine v_on ?_ | refine v_og ?_ | refine v_q ?_ | refine v_sr ?_ | refine v_k ?_ | refine m_nil ?_)
      refine loop_n (k + 1) (by omega) ?_ rfl (by omega)
      ((repeat (first | exact trivial | (refine ⟨?_, ?_⟩; (focus (first | rfl | (simp [lk, argsS, args0]; done) | (simp [lk, argsS, args0]; omega)))))))
    · have : k = L := by omega
      subst this
      have hp0 := parT_none (L := k) (n := n) (V := vN n o number)
      have hp1 := parT_none (L := k) (n := n) (V := vO n o number)
      have hh : ([(6, .box [.d (.int .i64 0), .d (.int .i64 0), .d .nils, .d .nils]), (7, .box [.d (.int .i64 n), .d (.int .i64 o), .own 200, .own 201]), (200, .rows 25 2 1 (rws (tabI k n fun _ _ => 0)) none), (201, .rows 25 2 1 (rws (tabI k n fun _ _ => 0)) none)] : Heap)
        = [(6, .box [.d (.int .i64 0), .d (.int .i64 0), .d .nils, .d .nils]), (7, .box [.d (.int .i64 n), .d (.int .i64 o), .own 200, .own 201]), (200, .rows 25 2 1 (rws (tabI k n (parT k n (vN n o number) 0 0))) none), (201, .rows 25 2 1 (rws (tabI k n (parT k n (vO n o number) 0 0))) none)] := by rw [← hp0, ← hp1]
      rw [hh]
      have hL1 : (k : Int) - 1 = (k : Int) - 1 - (0 : Nat) := by simp
      repeat (first | refine awp_seq ?_ | refine then_n ?_ | refine then_r ?_ | refine then_x ?_ | refine block_n ?_ | refine block_r ?_ | refine block_x ?_ | refine u_y ?_ | refine loop_r ?_ | refine loop_x ?_ | refine awp_region ?_ | refine awpL_nil ?_ | refine awpQL_nil ?_ | refine awp_block ?_ | refine awp_skip ?_ | refine awp_exit ?_ | refine awp_label ?_ | refine u_dT ?_ | refine u_d ?_ | refine u_l ?_ | refine u_o ?_ | refine u_q ?_ | refine u_lr ?_ | refine u_qr ?_ | refine u_ls ?_ | refine u_qs ?_ | refine u_t ?_ | refine u_f ?_ | refine v_s ?_ | refine v_o ?_ | refine v_on ?_ | refine v_og ?_ | refine v_q ?_ | refine v_sr ?_ | refine v_k ?_ | refine m_nil ?_)
      refine awp_loop (fun j : Nat => j ≤ k) (fun j => [(1, .d (.int .i64 n)), (2, .d (.int .i64 (iterN n o number (j * n)))), (3, .d (.ptr (mach s o nx ou))), (6, .ref 6 0), (7, .ref 7 0), (8, .d (.int .i64 ((k : Int) - 1 - j)))])
        (fun j => [(6, .box [.d (.int .i64 0), .d (.int .i64 0), .d .nils, .d .nils]), (7, .box [.d (.int .i64 n), .d (.int .i64 o), .own 200, .own 201]), (200, .rows 25 2 1 (rws (tabI k n (parT k n (vN n o number) j 0))) none), (201, .rows 25 2 1 (rws (tabI k n (parT k n (vO n o number) j 0))) none)]) (fun j => k - j) 0 (by omega) ?_ rfl ?_
      · refine ⟨rfl, ?_, rfl, rfl, rfl, ?_, trivial⟩
        · simp [lk, iterN]
        · show SV.d (.int .i64 (((List.map ints nx).length : Int) - 1)) = _
          rw [hle, ← hL1]
      · intro j hj
        by_cases hjl : j < k
        · repeat (first | refine awp_seq ?_ | refine then_n ?_ | refine then_r ?_ | refine then_x ?_ | refine block_n ?_ | refine block_r ?_ | refine block_x ?_ | refine u_y ?_ | refine loop_r ?_ | refine loop_x ?_ | refine awp_region ?_ | refine awpL_nil ?_ | refine awpQL_nil ?_ | refine awp_block ?_ | refine awp_skip ?_ | refine awp_exit ?_ | refine awp_label ?_ | refine u_dT ?_ | refine u_d ?_ | refine u_l ?_ | refine u_o ?_ | refine u_q ?_ | refine u_lr ?_ | refine u_qr ?_ | refine u_ls ?_ | refine u_qs ?_ | refine u_t ?_ | refine u_f ?_ | refine v_s ?_ | refine v_o ?_ | refine v_on ?_ | refine v_og ?_ | refine v_q ?_ | refine v_sr ?_ | refine v_k ?_ | refine m_nil ?_)
          refine awp_loop (fun i : Nat => i ≤ n) (fun i => [(1, .d (.int .i64 n)), (2, .d (.int .i64 (iterN n o number (j * n + i)))), (3, .d (.ptr (mach s o nx ou))), (6, .ref 6 0), (7, .ref 7 0), (8, .d (.int .i64 ((k : Int) - 1 - j))), (9, .d (.int .i64 ((n : Int) - 1 - i)))])
            (fun i => [(6, .box [.d (.int .i64 0), .d (.int .i64 0), .d .nils, .d .nils]), (7, .box [.d (.int .i64 n), .d (.int .i64 o), .own 200, .own 201]), (200, .rows 25 2 1 (rws (tabI k n (parT k n (vN n o number) j i))) none), (201, .rows 25 2 1 (rws (tabI k n (parT k n (vO n o number) j i))) none)]) (fun i => n - i) 0 (by omega) ?_ rfl ?_
          · refine ⟨rfl, rfl, rfl, rfl, rfl, rfl, ?_, trivial⟩
            show SV.d (.int .i64 ((n : Int) - 1)) = SV.d (.int .i64 ((n : Int) - 1 - (0 : Nat)))
            simp
          · intro i hi
            by_cases hil : i < n
            · have hr := hir (j * n + i)
              have hstep : iterN n o number (j * n + (i + 1)) = iterN n o number (j * n + i) / o / n := rfl
              have hvO : vO n o number (j * n + i) = iterN n o number (j * n + i) % o := rfl
              have hvN : vN n o number (j * n + i) = iterN n o number (j * n + i) / o % n := rfl
              have hlx : (k : Int) - 1 - j = ((k - 1 - j : Nat) : Int) := by omega
              have hsx : (n : Int) - 1 - i = ((n - 1 - i : Nat) : Int) := by omega
              have hnx : ((n : Int) - 1 - i) - 1 = (n : Int) - 1 - ((i + 1 : Nat) : Int) := by omega
              have g1 := rws_tabI_get (n := n) (F := parT k n (vO n o number) j i) (show k - 1 - j < k by omega)
              have g2 := rws_tabI_get (n := n) (F := parT k n (vN n o number) j i) (show k - 1 - j < k by omega)
              have p1 := rws_tabI_set (L := k) (n := n) (l := k - 1 - j) (k := n - 1 - i) (F := parT k n (vO n o number) j i) (v := iterN n o number (j * n + i) % o)
              have p2 := rws_tabI_set (L := k) (n := n) (l := k - 1 - j) (k := n - 1 - i) (F := parT k n (vN n o number) j i) (v := iterN n o number (j * n + i) / o % n)
              rw [← hvO, parT_next hjl hil] at p1
              rw [← hvN, parT_next hjl hil] at p2
              have hq1 : 0 ≤ iterN n o number (j * n + i) / o := Int.ediv_nonneg hr.1 (by omega)
              have hq2 : iterN n o number (j * n + i) / o ≤ iterN n o number (j * n + i) := Int.ediv_le_self _ hr.1
              have hlT : ((k : Int) - 1 - j).toNat = k - 1 - j := by omega
              have hsT : ((n : Int) - 1 - i).toNat = n - 1 - i := by omega
              have hl1 := hrl k (parT k n (vO n o number) j i)
              have hl2 := hrl k (parT k n (vN n o number) j i)
              rw [← hlT] at g1 g2
              generalize iterN n o number (j * n + i) = u at *
              repeat (first | refine awp_seq ?_ | refine then_n ?_ | refine then_r ?_ | refine then_x ?_ | refine block_n ?_ | refine block_r ?_ | refine block_x ?_ | refine u_y ?_ | refine loop_r ?_ | refine loop_x ?_ | refine awp_region ?_ | refine awpL_nil ?_ | refine awpQL_nil ?_ | refine awp_block ?_ | refine awp_skip ?_ | refine awp_exit ?_ | refine awp_label ?_ | refine u_l ?_ | refine u_o ?_ | refine u_q ?_ | refine u_lr ?_ | refine u_qr ?_ | refine u_ls ?_ | refine u_qs ?_ | refine u_t ?_ | refine u_f ?_ | refine v_s ?_ | refine v_o ?_ | refine v_on ?_ | refine v_og ?_ | refine v_q ?_ | refine v_sr ?_ | refine v_k ?_ | refine m_nil ?_)
              refine awp_carve0 201 ((k : Int) - 1 - j).toNat 300 rfl g1 rfl rfl rfl ?_
              repeat (first | refine awp_seq ?_ | refine then_n ?_ | refine then_r ?_ | refine then_x ?_ | refine block_n ?_ | refine block_r ?_ | refine block_x ?_ | refine u_y ?_ | refine loop_r ?_ | refine loop_x ?_ | refine awpL_nil ?_ | refine awpQL_nil ?_ | refine awp_block ?_ | refine awp_skip ?_ | refine awp_exit ?_ | refine awp_label ?_ | refine u_dT ?_ | refine u_d ?_ | ((first | apply x_l | apply x_q | apply x_lr | apply x_qr); (focus (first | (apply wa_loadHole; (iterate 5 (focus (first | exact rfl | (first | assumption | omega | (simp; omega) | (simp; done) | rfl))))))); exact rfl) | (apply v_x; (iterate 2 exact rfl); (focus (intro ok0 nw hle; (first | (apply wa_loadHole; (iterate 5 (focus (first | exact rfl | (first | assumption | omega | (simp; omega) | (simp; done) | rfl)))))))); (iterate 2 exact rfl)) | refine u_l ?_ | refine u_o ?_ | refine u_q ?_ | refine u_lr ?_ | refine u_qr ?_ | refine u_ls ?_ | refine u_qs ?_ | refine u_t ?_ | refine u_f ?_ | refine v_s ?_ | refine v_o ?_ | refine v_on ?_ | refine v_og ?_ | refine v_q ?_ | refine v_sr ?_ | refine v_k ?_ | refine m_nil ?_)
              refine awp_back 201 300 (by exact rfl) (by exact rfl) (by exact rfl) (by exact rfl) (by exact rfl) (by exact rfl) g1 (by simp) ?_
              repeat (first | refine awp_seq ?_ | refine then_n ?_ | refine then_r ?_ | refine then_x ?_ | refine block_n ?_ | refine block_r ?_ | refine block_x ?_ | refine u_y ?_ | refine loop_r ?_ | refine loop_x ?_ | refine awp_region ?_ | refine awpL_nil ?_ | refine awpQL_nil ?_ | refine awp_block ?_ | refine awp_skip ?_ | refine awp_exit ?_ | refine awp_label ?_ | refine u_l ?_ | refine u_o ?_ | refine u_q ?_ | refine u_lr ?_ | refine u_qr ?_ | refine u_ls ?_ | refine u_qs ?_ | refine u_t ?_ | refine u_f ?_ | refine v_s ?_ | refine v_o ?_ | refine v_on ?_ | refine v_og ?_ | refine v_q ?_ | refine v_sr ?_ | refine v_k ?_ | refine m_nil ?_)
              refine awp_carve0 200 ((k : Int) - 1 - j).toNat 300 rfl g2 rfl rfl rfl ?_
              repeat (first | refine awp_seq ?_ | refine then_n ?_ | refine then_r ?_ | refine then_x ?_ | refine block_n ?_ | refine block_r ?_ | refine block_x ?_ | refine u_y ?_ | refine loop_r ?_ | refine loop_x ?_ | refine awpL_nil ?_ | refine awpQL_nil ?_ | refine awp_block ?_ | refine awp_skip ?_ | refine awp_exit ?_ | refine awp_label ?_ | refine u_dT ?_ | refine u_d ?_ | ((first | apply x_l | apply x_q | apply x_lr | apply x_qr); (focus (first | (apply wa_loadHole; (iterate 5 (focus (first | exact rfl | (first | assumption | omega | (simp; omega) | (simp; done) | rfl))))))); exact rfl) | (apply v_x; (iterate 2 exact rfl); (focus (intro ok0 nw hle; (first | (apply wa_loadHole; (iterate 5 (focus (first | exact rfl | (first | assumption | omega | (simp; omega) | (simp; done) | rfl)))))))); (iterate 2 exact rfl)) | refine u_l ?_ | refine u_o ?_ | refine u_q ?_ | refine u_lr ?_ | refine u_qr ?_ | refine u_ls ?_ | refine u_qs ?_ | refine u_t ?_ | refine u_f ?_ | refine v_s ?_ | refine v_o ?_ | refine v_on ?_ | refine v_og ?_ | refine v_q ?_ | refine v_sr ?_ | refine v_k ?_ | refine m_nil ?_)
              refine awp_back 200 300 (by exact rfl) (by exact rfl) (by exact rfl) (by exact rfl) (by exact rfl) (by exact rfl) g2 (by simp) ?_
              refine awp_perm _ rfl ?_
              repeat (first | refine awp_seq ?_ | refine then_n ?_ | refine then_r ?_ | refine then_x ?_ | refine block_n ?_ | refine block_r ?_ | refine block_x ?_ | refine u_y ?_ | refine loop_r ?_ | refine loop_x ?_ | refine awp_region ?_ | refine awpL_nil ?_ | refine awpQL_nil ?_ | refine awp_block ?_ | refine awp_skip ?_ | refine awp_exit ?_ | refine awp_label ?_ | refine u_dT ?_ | refine u_d ?_ | refine u_l ?_ | refine u_o ?_ | refine u_q ?_ | refine u_lr ?_ | refine u_qr ?_ | refine u_ls ?_ | refine u_qs ?_ | refine u_t ?_ | refine u_f ?_ | refine v_s ?_ | refine v_o ?_ | refine v_on ?_ | refine v_og ?_ | refine v_q ?_ | refine v_sr ?_ | refine v_k ?_ | refine m_nil ?_)
              refine loop_n (i + 1) (by omega) ?_ ?_ (by omega)
              · rw [hstep, ← hnx]; ((repeat (first | exact trivial | (refine ⟨?_, ?_⟩; (focus (first | rfl | (simp [lk, argsS, args0]; done) | (simp [lk, argsS, args0]; omega)))))))
              · rw [← p1, ← p2, ← hlT, ← hsT]
                rw [hvO, hvN]
                rfl
            · have : i = n := by omega
              subst this
              have hjn : j * i + i = (j + 1) * i := (Nat.succ_mul j i).symm
              have hnx : ((k : Int) - 1 - j) - 1 = (k : Int) - 1 - ((j + 1 : Nat) : Int) := by omega
              rw [parT_row, parT_row, hjn]
              repeat (first | refine awp_seq ?_ | refine then_n ?_ | refine then_r ?_ | refine then_x ?_ | refine block_n ?_ | refine block_r ?_ | refine block_x ?_ | refine u_y ?_ | refine loop_r ?_ | refine loop_x ?_ | refine awp_region ?_ | refine awpL_nil ?_ | refine awpQL_nil ?_ | refine awp_block ?_ | refine awp_skip ?_ | refine awp_exit ?_ | refine awp_label ?_ | refine u_dT ?_ | refine u_d ?_ | refine u_l ?_ | refine u_o ?_ | refine u_q ?_ | refine u_lr ?_ | refine u_qr ?_ | refine u_ls ?_ | refine u_qs ?_ | refine u_t ?_ | refine u_f ?_ | refine v_s ?_ | refine v_o ?_ | refine v_on ?_ | refine v_og ?_ | refine v_q ?_ | refine v_sr ?_ | refine v_k ?_ | refine m_nil ?_)
              refine loop_n (j + 1) (by omega) ?_ rfl (by omega)
              rw [← hnx]
              ((repeat (first | exact trivial | (refine ⟨?_, ?_⟩; (focus (first | rfl | (simp [lk, argsS, args0]; done) | (simp [lk, argsS, args0]; omega)))))))
        · have : j = k := by omega
          subst this
          rw [parT_all, parT_all]
          repeat (first | refine awp_seq ?_ | refine then_n ?_ | refine then_r ?_ | refine then_x ?_ | refine block_n ?_ | refine block_r ?_ | refine block_x ?_ | refine u_y ?_ | refine loop_r ?_ | refine loop_x ?_ | refine awp_region ?_ | refine awpL_nil ?_ | refine awpQL_nil ?_ | refine awp_block ?_ | refine awp_skip ?_ | refine awp_exit ?_ | refine awp_label ?_ | refine u_dT ?_ | refine u_d ?_ | refine u_l ?_ | refine u_o ?_ | refine u_q ?_ | refine u_lr ?_ | refine u_qr ?_ | refine u_ls ?_ | refine u_qs ?_ | refine u_t ?_ | refine u_f ?_ | refine v_s ?_ | refine v_o ?_ | refine v_on ?_ | refine v_og ?_ | refine v_q ?_ | refine v_sr ?_ | refine v_k ?_ | refine m_nil ?_)
          (refine awp_ret ?_; (repeat (first | refine then_r ?_ | refine block_r ?_ | refine loop_r ?_)); refine u_rH [(200, 30000), (201, 30001)] ?_ ?_)
          · rfl
          · rfl
end

theorem impl_apartH {s o s' o' : Int} {nx ou nx' ou' : List (List Int)} {I : Nat} {R : List Int × Bool} (m : MV s o nx ou) (m' : MV s' o' nx' ou') (he : nx'.length = nx.length) (hS : Srch nx ou nx' ou' I R) (hI : I ≤ 1000) :
    HC Try.prog 83 [.d (mach s o nx ou), .d (mach s' o' nx' ou'), .d (.int .i64 0), .d (.int .i64 0)] [] (.tup [.own 30000, .d (.bool R.2)]) [(30000, .arr 2 1 (R.1.map (.int .i64)))] := by
  have hs := m.s1
  have hs' := m'.s1
  have hn := m.n1
  have heq := m.eq
  have heq' := m'.eq
  have hle : (List.map ints nx).length = nx.length := by simp
  have hok := fun i => lstP_ok m m' he i
  have hpl : ∀ L : PL, (plD L).length = L.length := fun L => by simp [plD]
  have hclo : ∀ w : List Int, w.length ≤ 1048576 → HC Try.prog 77 [.d (ints w)] [] (.own 30000) [(30000, .arr 2 1 (w.map (.int .i64)))] := fun w h => impl_cloneH h
  have hpi := pairIs
  refine hc_intro tabIs _ Try.func83 rfl rfl Try.ntmps83 rfl rfl rfl ?_ fun w0 ok0 XM XA anc => ?_
  · exact likeIn_nil
  repeat (first | refine awp_seq ?_ | refine then_n ?_ | refine then_r ?_ | refine then_x ?_ | refine block_n ?_ | refine block_r ?_ | refine block_x ?_ | refine u_y ?_ | refine loop_r ?_ | refine loop_x ?_ | refine awp_region ?_ | refine awpL_nil ?_ | refine awpQL_nil ?_ | refine awp_block ?_ | refine awp_skip ?_ | refine awp_exit ?_ | refine awp_label ?_ | refine u_l ?_ | refine u_o ?_ | refine u_q ?_ | refine u_lr ?_ | refine u_qr ?_ | refine u_ls ?_ | refine u_qs ?_ | refine u_t ?_ | refine u_f ?_ | refine v_s ?_ | refine v_o ?_ | refine v_on ?_ | refine v_og ?_ | refine v_q ?_ | refine v_sr ?_ | refine v_k ?_ | refine m_nil ?_)
  refine u_mJ [(3, [22]), (4, [23]), (9, [23])] (.tk [22, 23] [0, 1, 2, 5, 6, 7, 8] (.fork 3 4 (.tk [] [4, 9] (.tk [22] [10] (.tk [23] [11] (.tk [] [12] .done)))) (.fork 3 9 (.tk [] [9] (.tk [22] [10] (.tk [23] [11] (.tk [] [12] .done)))) (.tk [22] [10] (.tk [] [3] (.tk [23] [11] (.tk [] [12] .done)))))))
    [(4, .d (.ptr (mach s o nx ou))), (5, .d (.ptr (mach s' o' nx' ou'))), (10, .own 22), (11, .own 23)]
    [(22, .arr 146 2 (plD (lstP nx nx' 0))), (23, .map (wmD (lstP nx nx' 0)))] ?_ ?_
  · repeat (first | refine awp_seq ?_ | refine then_n ?_ | refine then_r ?_ | refine then_x ?_ | refine block_n ?_ | refine block_r ?_ | refine block_x ?_ | refine u_y ?_ | refine loop_r ?_ | refine loop_x ?_ | refine awp_region ?_ | refine awpL_nil ?_ | refine awpQL_nil ?_ | refine awp_block ?_ | refine awp_skip ?_ | refine awp_exit ?_ | refine awp_label ?_ | refine u_dT ?_ | refine u_d ?_ | refine u_l ?_ | refine u_o ?_ | refine u_q ?_ | refine u_lr ?_ | refine u_qr ?_ | refine u_ls ?_ | refine u_qs ?_ | refine u_t ?_ | refine u_f ?_ | refine v_s ?_ | refine v_o ?_ | refine v_on ?_ | refine v_og ?_ | refine v_q ?_ | refine v_sr ?_ | refine v_k ?_ | refine m_nil ?_)
    refine m_fork ?_ ?_
    · repeat (first | refine v_w (t := 22) ?_ | refine awp_seq ?_ | refine then_n ?_ | refine then_r ?_ | refine then_x ?_ | refine block_n ?_ | refine block_r ?_ | refine block_x ?_ | refine u_y ?_ | refine loop_r ?_ | refine loop_x ?_ | refine awp_region ?_ | refine awpL_nil ?_ | refine awpQL_nil ?_ | refine awp_block ?_ | refine awp_skip ?_ | refine awp_exit ?_ | refine awp_label ?_ | refine u_dT ?_ | refine u_d ?_ | refine u_w (t := 22) ?_ | refine u_l ?_ | refine u_o ?_ | refine u_q ?_ | refine u_lr ?_ | refine u_qr ?_ | refine u_ls ?_ | refine u_qs ?_ | refine u_t ?_ | refine u_f ?_ | refine v_s ?_ | refine v_o ?_ | refine v_on ?_ | refine v_og ?_ | refine v_q ?_ | refine v_sr ?_ | refine v_k ?_ | refine m_nil ?_)
      refine v_on ?_ (ho := by (intro rest; apply wo_mapInsertP; (iterate 6 exact rfl); exact pairIs; exact rfl))
      repeat (first | refine awp_seq ?_ | refine then_n ?_ | refine then_r ?_ | refine then_x ?_ | refine block_n ?_ | refine block_r ?_ | refine block_x ?_ | refine u_y ?_ | refine loop_r ?_ | refine loop_x ?_ | refine awp_region ?_ | refine awpL_nil ?_ | refine awpQL_nil ?_ | refine awp_block ?_ | refine awp_skip ?_ | refine awp_exit ?_ | refine awp_label ?_ | refine u_dT ?_ | refine u_d ?_ | refine u_l ?_ | refine u_o ?_ | refine u_q ?_ | refine u_lr ?_ | refine u_qr ?_ | refine u_ls ?_ | refine u_qs ?_ | refine u_t ?_ | refine u_f ?_ | refine v_s ?_ | refine v_o ?_ | refine v_on ?_ | refine v_og ?_ | refine v_q ?_ | refine v_sr ?_ | refine v_k ?_ | refine m_nil ?_)
      exact ⟨by ((repeat (first | exact trivial | (refine ⟨?_, ?_⟩; (focus (first | rfl | (simp [lk, argsS, args0]; done) | (simp [lk, argsS, args0]; omega))))))), perm_of_sort rfl⟩
    · repeat (first | refine awp_seq ?_ | refine then_n ?_ | refine then_r ?_ | refine then_x ?_ | refine block_n ?_ | refine block_r ?_ | refine block_x ?_ | refine u_y ?_ | refine loop_r ?_ | refine loop_x ?_ | refine awp_region ?_ | refine awpL_nil ?_ | refine awpQL_nil ?_ | refine awp_block ?_ | refine awp_skip ?_ | refine awp_exit ?_ | refine awp_label ?_ | refine u_dT ?_ | refine u_d ?_ | refine u_l ?_ | refine u_o ?_ | refine u_q ?_ | refine u_lr ?_ | refine u_qr ?_ | refine u_ls ?_ | refine u_qs ?_ | refine u_t ?_ | refine u_f ?_ | refine v_s ?_ | refine v_o ?_ | refine v_on ?_ | refine v_og ?_ | refine v_q ?_ | refine v_sr ?_ | refine v_k ?_ | refine m_nil ?_)
      refine m_fork ?_ ?_
      · repeat (first | refine v_w (t := 22) ?_ | refine awp_seq ?_ | refine then_n ?_ | refine then_r ?_ | refine then_x ?_ | refine block_n ?_ | refine block_r ?_ | refine block_x ?_ | refine u_y ?_ | refine loop_r ?_ | refine loop_x ?_ | refine awp_region ?_ | refine awpL_nil ?_ | refine awpQL_nil ?_ | refine awp_block ?_ | refine awp_skip ?_ | refine awp_exit ?_ | refine awp_label ?_ | refine u_dT ?_ | refine u_d ?_ | refine u_w (t := 22) ?_ | refine u_l ?_ | refine u_o ?_ | refine u_q ?_ | refine u_lr ?_ | refine u_qr ?_ | refine u_ls ?_ | refine u_qs ?_ | refine u_t ?_ | refine u_f ?_ | refine v_s ?_ | refine v_o ?_ | refine v_on ?_ | refine v_og ?_ | refine v_q ?_ | refine v_sr ?_ | refine v_k ?_ | refine m_nil ?_)
        refine v_on ?_ (ho := by (intro rest; apply wo_mapInsertP; (iterate 6 exact rfl); exact pairIs; exact rfl))
        repeat (first | refine awp_seq ?_ | refine then_n ?_ | refine then_r ?_ | refine then_x ?_ | refine block_n ?_ | refine block_r ?_ | refine block_x ?_ | refine u_y ?_ | refine loop_r ?_ | refine loop_x ?_ | refine awp_region ?_ | refine awpL_nil ?_ | refine awpQL_nil ?_ | refine awp_block ?_ | refine awp_skip ?_ | refine awp_exit ?_ | refine awp_label ?_ | refine u_dT ?_ | refine u_d ?_ | refine u_l ?_ | refine u_o ?_ | refine u_q ?_ | refine u_lr ?_ | refine u_qr ?_ | refine u_ls ?_ | refine u_qs ?_ | refine u_t ?_ | refine u_f ?_ | refine v_s ?_ | refine v_o ?_ | refine v_on ?_ | refine v_og ?_ | refine v_q ?_ | refine v_sr ?_ | refine v_k ?_ | refine m_nil ?_)
        exact ⟨by ((repeat (first | exact trivial | (refine ⟨?_, ?_⟩; (focus (first | rfl | (simp [lk, argsS, args0]; done) | (simp [lk, argsS, args0]; omega))))))), perm_of_sort rfl⟩
      · refine v_on ?_ (ho := by (intro rest; apply wo_mapInsertP; (iterate 6 exact rfl); exact pairIs; exact rfl))
        repeat (first | refine v_w (t := 22) ?_ | refine awp_seq ?_ | refine then_n ?_ | refine then_r ?_ | refine then_x ?_ | refine block_n ?_ | refine block_r ?_ | refine block_x ?_ | refine u_y ?_ | refine loop_r ?_ | refine loop_x ?_ | refine awp_region ?_ | refine awpL_nil ?_ | refine awpQL_nil ?_ | refine awp_block ?_ | refine awp_skip ?_ | refine awp_exit ?_ | refine awp_label ?_ | refine u_dT ?_ | refine u_d ?_ | refine u_w (t := 22) ?_ | refine u_l ?_ | refine u_o ?_ | refine u_q ?_ | refine u_lr ?_ | refine u_qr ?_ | refine u_ls ?_ | refine u_qs ?_ | refine u_t ?_ | refine u_f ?_ | refine v_s ?_ | refine v_o ?_ | refine v_on ?_ | refine v_og ?_ | refine v_q ?_ | refine v_sr ?_ | refine v_k ?_ | refine m_nil ?_)
        exact ⟨by ((repeat (first | exact trivial | (refine ⟨?_, ?_⟩; (focus (first | rfl | (simp [lk, argsS, args0]; done) | (simp [lk, argsS, args0]; omega))))))), perm_of_sort rfl⟩
  · repeat (first | refine awp_seq ?_ | refine then_n ?_ | refine then_r ?_ | refine then_x ?_ | refine block_n ?_ | refine block_r ?_ | refine block_x ?_ | refine u_y ?_ | refine loop_r ?_ | refine loop_x ?_ | refine awp_region ?_ | refine awpL_nil ?_ | refine awpQL_nil ?_ | refine awp_block ?_ | refine awp_skip ?_ | refine awp_exit ?_ | refine awp_label ?_ | refine u_dT ?_ | refine u_d ?_ | refine u_l ?_ | refine u_o ?_ | refine u_q ?_ | refine u_lr ?_ | refine u_qr ?_ | refine u_ls ?_ | refine u_qs ?_ | refine u_t ?_ | refine u_f ?_ | refine v_s ?_ | refine v_o ?_ | refine v_on ?_ | refine v_og ?_ | refine v_q ?_ | refine v_sr ?_ | refine v_k ?_ | refine m_nil ?_)
    refine awp_loop (fun i : Nat => i ≤ I) (fun i => [(4, .d (.ptr (mach s o nx ou))), (5, .d (.ptr (mach s' o' nx' ou'))), (10, .own 22), (11, .own 23), (12, .d (.int .i64 i))]) (fun i => [(22, .arr 146 2 (plD (lstP nx nx' i))), (23, .map (wmD (lstP nx nx' i)))]) (fun i => I + 1 - i) 0 (by omega) ?_ rfl ?_
    · ((repeat (first | exact trivial | (refine ⟨?_, ?_⟩; (focus (first | rfl | (simp [lk, argsS, args0]; done) | (simp [lk, argsS, args0]; omega)))))))
    · intro i hi
      have hoki := hok i
      have hlen := hoki.len hs.2 hs'.2
      have hpli := hpl (lstP nx nx' i)
      by_cases hlt : i < (lstP nx nx' i).length
      · obtain ⟨p, hp⟩ : ∃ p, (lstP nx nx' i)[i]? = some p := ⟨_, List.getElem?_eq_getElem hlt⟩
        have hnext := lstP_next hp
        have hhit := fun x => srch_hit (x := x) hS hi hp
        have hgo := srch_go hS hi hp
        have hpm := List.mem_of_getElem? hp
        have hpl0 := hoki.lt p hpm
        have hwl := hoki.wl p hpm
        have hpre := letP_pre nx nx' p (lstP nx nx' i)
        have hokx := letP_ok m m' he hoki hpm
        have hel : (plD (lstP nx nx' i))[(i : Int).toNat]? = some (.agg [.int .i64 ((p.1 / 16 : Nat) : Int), .int .i64 ((p.1 % 16 : Nat) : Int)]) := by
          unfold plD
          rw [List.getElem?_map, Int.toNat_natCast, hp]
          rfl
        have hdf : ∀ x, difP ou ou' p.1 x = decide (¬ at2 ou x (p.1 / 16 : Nat) = at2 ou' x (p.1 % 16 : Nat)) := fun _ => rfl
        have hnx := fun x (hx : x < nx.length) => nxP_ok m m' he (c := p.1) (x := x) hx hpl0
        generalize hc : lstP nx nx' i = L at *
        have h0 : L = letP nx nx' p L 0 := rfl
        repeat (first | refine awp_seq ?_ | refine then_n ?_ | refine then_r ?_ | refine then_x ?_ | refine block_n ?_ | refine block_r ?_ | refine block_x ?_ | refine u_y ?_ | refine loop_r ?_ | refine loop_x ?_ | refine awp_region ?_ | refine awpL_nil ?_ | refine awpQL_nil ?_ | refine awp_block ?_ | refine awp_skip ?_ | refine awp_exit ?_ | refine awp_label ?_ | refine u_dT ?_ | refine u_d ?_ | ((first | apply x_l | apply x_q | apply x_lr | apply x_qr); (focus (first | (apply wa_loadEltA; (iterate 6 (focus (first | exact rfl | (first | assumption | omega | (simp; omega) | (simp; done) | rfl))))))); exact rfl) | (apply v_x; (iterate 2 exact rfl); (focus (intro ok0 nw hle; (first | (apply wa_loadEltA; (iterate 6 (focus (first | exact rfl | (first | assumption | omega | (simp; omega) | (simp; done) | rfl)))))))); (iterate 2 exact rfl)) | refine u_l ?_ | refine u_o ?_ | refine u_q ?_ | refine u_lr ?_ | refine u_qr ?_ | refine u_ls ?_ | refine u_qs ?_ | refine u_t ?_ | refine u_f ?_ | refine v_s ?_ | refine v_o ?_ | refine v_on ?_ | refine v_og ?_ | refine v_q ?_ | refine v_sr ?_ | refine v_k ?_ | refine m_nil ?_)
        refine awp_freezeB 13 rfl rfl rfl ?_
        refine awp_perm [(22, .arr 146 2 (plD (letP nx nx' p L 0))), (23, .map (wmD (letP nx nx' p L 0)))] rfl ?_
        refine awp_loop (fun x : Nat => x ≤ nx.length ∧ ∀ y, y < x → difP ou ou' p.1 y = false) (fun x => [(4, .d (.ptr (mach s o nx ou))), (5, .d (.ptr (mach s' o' nx' ou'))), (10, .own 22), (11, .own 23), (12, .d (.int .i64 i)), (13, .d (.ptr (.agg [.int .i64 ((p.1 / 16 : Nat) : Int), .int .i64 ((p.1 % 16 : Nat) : Int)]))), (41, .d (.int .i64 nx.length)), (42, .d (.int .i64 x))])
          (fun x => [(22, .arr 146 2 (plD (letP nx nx' p L x))), (23, .map (wmD (letP nx nx' p L x)))]) (fun x => nx.length - x) 0 (by exact ⟨by omega, fun y h => by omega⟩) ?_ rfl ?_
        · refine ⟨rfl, rfl, rfl, rfl, rfl, rfl, ?_, rfl, trivial⟩
          exact congrArg (fun n : Nat => SV.d (.int .i64 n)) hle
        · rintro x ⟨hx, hb⟩
          have hokk := hokx x hx
          have hlenk := hokk.len hs.2 hs'.2
          have hplk := hpl (letP nx nx' p L x)
          by_cases hxl : x < nx.length
          · obtain ⟨t, ht⟩ := hpre x
            have hpi' : (letP nx nx' p L x)[i]? = some p := by rw [ht, List.getElem?_append_left hlt]; exact hp
            have hstep : letP nx nx' p L (x + 1) = addP (letP nx nx' p L x) (nxP nx nx' p.1 x) (p.2 ++ [(x : Int)]) := rfl
            obtain ⟨n1, n2, n3, n4⟩ := hnx x hxl
            have hget := wm_get hokk.nd hpi'
            have hnone := wm_none (c := nxP nx nx' p.1 x) (L := letP nx nx' p L x)
            have hput := wm_put (c := nxP nx nx' p.1 x) (w := p.2 ++ [(x : Int)]) (L := letP nx nx' p L x)
            have hkeys := wm_keys (letP nx nx' p L x)
            have hmet : nxP nx nx' p.1 x ∈ (letP nx nx' p L x).map (·.1) → ∃ (q : Nat × List Int) (j : Nat), (letP nx nx' p L x)[j]? = some q ∧ q.1 = nxP nx nx' p.1 x := fun h => by
              obtain ⟨q, hq, hq2⟩ := List.mem_map.1 h
              obtain ⟨j, hj, hj2⟩ := List.getElem_of_mem hq
              exact ⟨q, j, by rw [List.getElem?_eq_getElem hj, hj2], hq2⟩
            have hnd := hokk.nd
            generalize letP nx nx' p L x = K at *
            have hg1 : MGetP ((p.1 / 16 : Nat) : Int) ((p.1 % 16 : Nat) : Int) (wmD K) (some (ints p.2)) := ⟨hget⟩
            have e1 := hclo p.2 (by omega)
            have hx' : 0 ≤ (x : Int) ∧ (x : Int) < nx.length := by omega
            have ro1 := el_row2 (xs := ou) (l := (x : Int)) (by omega)
            have ro2 := el_row2 (xs := ou') (l := (x : Int)) (by omega)
            have rn1 := el_row2 (xs := nx) (l := (x : Int)) (by omega)
            have rn2 := el_row2 (xs := nx') (l := (x : Int)) (by omega)
            have l1 := tbl_row m.ou (l := (x : Int)) (by omega)
            have l2 := tbl_row m'.ou (l := (x : Int)) (by omega)
            have l3 := tbl_row m.nx (l := (x : Int)) (by omega)
            have l4 := tbl_row m'.nx (l := (x : Int)) (by omega)
            have eo1 : (List.map (D.int .i64) (row ou x))[((p.1 / 16 : Nat) : Int).toNat]? = some (.int .i64 (at2 ou x (p.1 / 16 : Nat))) := el_int2 (ns := row ou x) (q := ((p.1 / 16 : Nat) : Int)) (by omega)
            have eo2 : (List.map (D.int .i64) (row ou' x))[((p.1 % 16 : Nat) : Int).toNat]? = some (.int .i64 (at2 ou' x (p.1 % 16 : Nat))) := el_int2 (ns := row ou' x) (q := ((p.1 % 16 : Nat) : Int)) (by omega)
            have en1 : (List.map (D.int .i64) (row nx x))[((p.1 / 16 : Nat) : Int).toNat]? = some (.int .i64 (at2 nx x (p.1 / 16 : Nat))) := el_int2 (ns := row nx x) (q := ((p.1 / 16 : Nat) : Int)) (by omega)
            have en2 : (List.map (D.int .i64) (row nx' x))[((p.1 % 16 : Nat) : Int).toNat]? = some (.int .i64 (at2 nx' x (p.1 % 16 : Nat))) := el_int2 (ns := row nx' x) (q := ((p.1 % 16 : Nat) : Int)) (by omega)
            have hdx := hdf x
            have hwm : (p.2.map (D.int .i64)).length = p.2.length := by simp
            repeat (first | refine awp_seq ?_ | refine then_n ?_ | refine then_r ?_ | refine then_x ?_ | refine block_n ?_ | refine block_r ?_ | refine block_x ?_ | refine u_y ?_ | refine loop_r ?_ | refine loop_x ?_ | refine awp_region ?_ | refine awpL_nil ?_ | refine awpQL_nil ?_ | refine awp_block ?_ | refine awp_skip ?_ | refine awp_exit ?_ | refine awp_label ?_ | refine u_dT ?_ | refine u_d ?_ | ((first | apply x_l | apply x_q | apply x_lr | apply x_qr); (focus (first | (apply wa_gotP; (iterate 10 (focus (first | exact rfl | (first | assumption | omega | (simp; omega) | (simp; done) | rfl))))))); exact rfl) | (apply v_x; (iterate 2 exact rfl); (focus (intro ok0 nw hle; (first | (apply wa_gotP; (iterate 10 (focus (first | exact rfl | (first | assumption | omega | (simp; omega) | (simp; done) | rfl)))))))); (iterate 2 exact rfl)) | refine u_l ?_ | refine u_o ?_ | refine u_q ?_ | refine u_lr ?_ | refine u_qr ?_ | refine u_ls ?_ | refine u_qs ?_ | refine u_t ?_ | refine u_f ?_ | refine v_s ?_ | refine v_o ?_ | refine v_on ?_ | refine v_og ?_ | refine v_q ?_ | refine v_sr ?_ | refine v_k ?_ | refine m_nil ?_)
            refine hcl [] [(30000, 500)] e1 ?_
            cases hd : difP ou ou' p.1 x
            · rw [hd] at hdx
              have hcd : (!decide (at2 ou x (p.1 / 16 : Nat) = at2 ou' x (p.1 % 16 : Nat))) = false := by simpa using hdx
              repeat (first | refine awp_seq ?_ | refine then_n ?_ | refine then_r ?_ | refine then_x ?_ | refine block_n ?_ | refine block_r ?_ | refine block_x ?_ | refine u_y ?_ | refine loop_r ?_ | refine loop_x ?_ | refine awp_region ?_ | refine awpL_nil ?_ | refine awpQL_nil ?_ | refine awp_block ?_ | refine awp_skip ?_ | refine awp_exit ?_ | refine awp_label ?_ | refine u_l ?_ | refine u_o ?_ | refine u_q ?_ | refine u_lr ?_ | refine u_qr ?_ | refine u_ls ?_ | refine u_qs ?_ | refine u_t ?_ | refine u_f ?_ | refine v_s ?_ | refine v_o ?_ | refine v_on ?_ | refine v_og ?_ | refine v_q ?_ | refine v_sr ?_ | refine v_k ?_ | refine m_nil ?_)
              refine awp_freeze 500 rfl rfl ?_
              refine u_d ?_
              repeat (first | refine awp_seq ?_ | refine then_n ?_ | refine then_r ?_ | refine then_x ?_ | refine block_n ?_ | refine block_r ?_ | refine block_x ?_ | refine u_y ?_ | refine loop_r ?_ | refine loop_x ?_ | refine awp_region ?_ | refine awpL_nil ?_ | refine awpQL_nil ?_ | refine awp_block ?_ | refine awp_skip ?_ | refine awp_exit ?_ | refine awp_label ?_ | refine u_l ?_ | refine u_o ?_ | refine u_q ?_ | refine u_lr ?_ | refine u_qr ?_ | refine u_ls ?_ | refine u_qs ?_ | refine u_t ?_ | refine u_f ?_ | refine v_s ?_ | refine v_o ?_ | refine v_on ?_ | refine v_og ?_ | refine v_q ?_ | refine v_sr ?_ | refine v_k ?_ | refine m_nil ?_)
              refine u_m [(19, [16]), (20, [16])] (.tk [16] [0, 1, 2, 3, 4, 5, 6, 7, 8, 9, 10, 11, 12, 13, 14, 15, 16, 17, 18] (.tk [] [19, 20] .done)) ?_
              repeat (first | refine awp_seq ?_ | refine then_n ?_ | refine then_r ?_ | refine then_x ?_ | refine block_n ?_ | refine block_r ?_ | refine block_x ?_ | refine u_y ?_ | refine loop_r ?_ | refine loop_x ?_ | refine awpL_nil ?_ | refine awpQL_nil ?_ | refine awp_block ?_ | refine awp_skip ?_ | refine awp_exit ?_ | refine awp_label ?_ | refine u_dT ?_ | refine u_d ?_ | refine u_l ?_ | refine u_o ?_ | refine u_q ?_ | refine u_lr ?_ | refine u_qr ?_ | refine u_ls ?_ | refine u_qs ?_ | refine u_t ?_ | refine u_f ?_ | refine v_s ?_ | refine v_o ?_ | refine v_on ?_ | refine v_og ?_ | refine v_q ?_ | refine v_sr ?_ | refine v_k ?_ | refine m_nil ?_)
              refine awp_freezeB 16 rfl rfl rfl ?_
              by_cases hmem : nxP nx nx' p.1 x ∈ K.map (·.1)
              · obtain ⟨q, j, hj1, hj2⟩ := hmet hmem
                have hg2 := wm_get hnd hj1
                rw [hj2, n1, n2] at hg2
                have hg2' : MGetP (at2 nx x (p.1 / 16 : Nat)) (at2 nx' x (p.1 % 16 : Nat)) (wmD K) (some (ints q.2)) := ⟨hg2⟩
                have hadd : addP K (nxP nx nx' p.1 x) (p.2 ++ [(x : Int)]) = K := if_pos hmem
                rw [hadd] at hstep
                repeat (first | refine awp_seq ?_ | refine then_n ?_ | refine then_r ?_ | refine then_x ?_ | refine block_n ?_ | refine block_r ?_ | refine block_x ?_ | refine u_y ?_ | refine loop_r ?_ | refine loop_x ?_ | refine awp_region ?_ | refine awpL_nil ?_ | refine awpQL_nil ?_ | refine awp_block ?_ | refine awp_skip ?_ | refine awp_exit ?_ | refine awp_label ?_ | refine u_dT ?_ | refine u_d ?_ | ((first | apply x_l | apply x_q | apply x_lr | apply x_qr); (focus (first | (apply wa_gotP; (iterate 10 (focus (first | exact rfl | (first | assumption | omega | (simp; omega) | (simp; done) | rfl))))))); exact rfl) | (apply v_x; (iterate 2 exact rfl); (focus (intro ok0 nw hle; (first | (apply wa_gotP; (iterate 10 (focus (first | exact rfl | (first | assumption | omega | (simp; omega) | (simp; done) | rfl)))))))); (iterate 2 exact rfl)) | refine u_l ?_ | refine u_o ?_ | refine u_q ?_ | refine u_lr ?_ | refine u_qr ?_ | refine u_ls ?_ | refine u_qs ?_ | refine u_t ?_ | refine u_f ?_ | refine v_s ?_ | refine v_o ?_ | refine v_on ?_ | refine v_og ?_ | refine v_q ?_ | refine v_sr ?_ | refine v_k ?_ | refine m_nil ?_)
                refine loop_n (x + 1) ⟨by omega, fun y hy => ?_⟩ ?_ ?_ (by omega)
                · by_cases e : y = x
                  · subst e; exact hd
                  · exact hb y (by omega)
                · ((repeat (first | exact trivial | (refine ⟨?_, ?_⟩; (focus (first | rfl | (simp [lk, argsS, args0]; done) | (simp [lk, argsS, args0]; omega)))))))
                · rw [hstep]; rfl
              · have hg2 := hnone hmem
                rw [n1, n2] at hg2
                have hg2' : MGetP (at2 nx x (p.1 / 16 : Nat)) (at2 nx' x (p.1 % 16 : Nat)) (wmD K) none := ⟨hg2⟩
                have hadd : addP K (nxP nx nx' p.1 x) (p.2 ++ [(x : Int)]) = K ++ [(nxP nx nx' p.1 x, p.2 ++ [(x : Int)])] := if_neg hmem
                rw [hadd] at hstep
                have hput' := hput hmem
                rw [n1, n2] at hput'
                have hpl2 : plD (K ++ [(nxP nx nx' p.1 x, p.2 ++ [(x : Int)])]) = plD K ++ [.agg [.int .i64 (at2 nx x (p.1 / 16 : Nat)), .int .i64 (at2 nx' x (p.1 % 16 : Nat))]] := by
                  have : prD (nxP nx nx' p.1 x) = .agg [.int .i64 (at2 nx x (p.1 / 16 : Nat)), .int .i64 (at2 nx' x (p.1 % 16 : Nat))] := by
                    unfold prD pairD
                    rw [n1, n2]
                  simp [plD, this]
                repeat (first | refine awp_seq ?_ | refine then_n ?_ | refine then_r ?_ | refine then_x ?_ | refine block_n ?_ | refine block_r ?_ | refine block_x ?_ | refine u_y ?_ | refine loop_r ?_ | refine loop_x ?_ | refine awp_region ?_ | refine awpL_nil ?_ | refine awpQL_nil ?_ | refine awp_block ?_ | refine awp_skip ?_ | refine awp_exit ?_ | refine awp_label ?_ | refine u_dT ?_ | refine u_d ?_ | ((first | apply x_l | apply x_q | apply x_lr | apply x_qr); (focus (first | (apply wa_gotP; (iterate 10 (focus (first | exact rfl | (first | assumption | omega | (simp; omega) | (simp; done) | rfl))))))); exact rfl) | (apply v_x; (iterate 2 exact rfl); (focus (intro ok0 nw hle; (first | (apply wa_gotP; (iterate 10 (focus (first | exact rfl | (first | assumption | omega | (simp; omega) | (simp; done) | rfl)))))))); (iterate 2 exact rfl)) | refine u_l ?_ | refine u_o ?_ | refine u_q ?_ | refine u_lr ?_ | refine u_qr ?_ | refine u_ls ?_ | refine u_qs ?_ | refine u_t ?_ | refine u_f ?_ | refine v_s ?_ | refine v_o ?_ | refine v_on ?_ | refine v_og ?_ | refine v_q ?_ | refine v_sr ?_ | refine v_k ?_ | refine m_nil ?_)
                (apply lto; (focus (apply wo_mapUpdateP; (iterate 6 exact rfl); exact pairIs; exact hkeys)))
                repeat (first | refine awp_seq ?_ | refine then_n ?_ | refine then_r ?_ | refine then_x ?_ | refine block_n ?_ | refine block_r ?_ | refine block_x ?_ | refine u_y ?_ | refine loop_r ?_ | refine loop_x ?_ | refine awp_region ?_ | refine awpL_nil ?_ | refine awpQL_nil ?_ | refine awp_block ?_ | refine awp_skip ?_ | refine awp_exit ?_ | refine awp_label ?_ | refine u_dT ?_ | refine u_d ?_ | refine u_l ?_ | refine u_o ?_ | refine u_q ?_ | refine u_lr ?_ | refine u_qr ?_ | refine u_ls ?_ | refine u_qs ?_ | refine u_t ?_ | refine u_f ?_ | refine v_s ?_ | refine v_o ?_ | refine v_on ?_ | refine v_og ?_ | refine v_q ?_ | refine v_sr ?_ | refine v_k ?_ | refine m_nil ?_)
                refine loop_n (x + 1) ⟨by omega, fun y hy => ?_⟩ ?_ ?_ (by omega)
                · by_cases e : y = x
                  · subst e; exact hd
                  · exact hb y (by omega)
                · ((repeat (first | exact trivial | (refine ⟨?_, ?_⟩; (focus (first | rfl | (simp [lk, argsS, args0]; done) | (simp [lk, argsS, args0]; omega)))))))
                · have hints : ints (p.2 ++ [(x : Int)]) = D.lst (p.2.map (.int .i64) ++ [.int .i64 (x : Int)]) := by simp [ints]
                  rw [hstep, hpl2, ← hput', hints]
                  rfl
            · rw [hd] at hdx
              have hcd : (!decide (at2 ou x (p.1 / 16 : Nat) = at2 ou' x (p.1 % 16 : Nat))) = true := by simpa using hdx.symm
              have hR := hhit x hxl hd hb
              subst hR
              repeat (first | refine awp_seq ?_ | refine then_n ?_ | refine then_r ?_ | refine then_x ?_ | refine block_n ?_ | refine block_r ?_ | refine block_x ?_ | refine u_y ?_ | refine loop_r ?_ | refine loop_x ?_ | refine awp_region ?_ | refine awpL_nil ?_ | refine awpQL_nil ?_ | refine awp_block ?_ | refine awp_skip ?_ | refine awp_exit ?_ | refine awp_label ?_ | refine u_dT ?_ | refine u_d ?_ | refine u_l ?_ | refine u_o ?_ | refine u_q ?_ | refine u_lr ?_ | refine u_qr ?_ | refine u_ls ?_ | refine u_qs ?_ | refine u_t ?_ | refine u_f ?_ | refine v_s ?_ | refine v_o ?_ | refine v_on ?_ | refine v_og ?_ | refine v_q ?_ | refine v_sr ?_ | refine v_k ?_ | refine m_nil ?_)
              (refine awp_ret ?_; (repeat (first | refine then_r ?_ | refine block_r ?_ | refine loop_r ?_)); refine u_rH [(500, 30000)] ?_ ?_)
              · rfl
              · simp [pickH, pickG]; rfl
          · have : x = nx.length := by omega
            subst this
            have hiI := hgo hb
            rw [← hnext]
            repeat (first | refine awp_seq ?_ | refine then_n ?_ | refine then_r ?_ | refine then_x ?_ | refine block_n ?_ | refine block_r ?_ | refine block_x ?_ | refine u_y ?_ | refine loop_r ?_ | refine loop_x ?_ | refine awp_region ?_ | refine awpL_nil ?_ | refine awpQL_nil ?_ | refine awp_block ?_ | refine awp_skip ?_ | refine awp_exit ?_ | refine awp_label ?_ | refine u_dT ?_ | refine u_d ?_ | refine u_l ?_ | refine u_o ?_ | refine u_q ?_ | refine u_lr ?_ | refine u_qr ?_ | refine u_ls ?_ | refine u_qs ?_ | refine u_t ?_ | refine u_f ?_ | refine v_s ?_ | refine v_o ?_ | refine v_on ?_ | refine v_og ?_ | refine v_q ?_ | refine v_sr ?_ | refine v_k ?_ | refine m_nil ?_)
            refine loop_n (i + 1) (by omega) ?_ rfl (by omega)
            ((repeat (first | exact trivial | (refine ⟨?_, ?_⟩; (focus (first | rfl | (simp [lk, argsS, args0]; done) | (simp [lk, argsS, args0]; omega)))))))
      · have hR := srch_end hS hi (by omega)
        subst hR
        repeat (first | refine awp_seq ?_ | refine then_n ?_ | refine then_r ?_ | refine then_x ?_ | refine block_n ?_ | refine block_r ?_ | refine block_x ?_ | refine u_y ?_ | refine loop_r ?_ | refine loop_x ?_ | refine awp_region ?_ | refine awpL_nil ?_ | refine awpQL_nil ?_ | refine awp_block ?_ | refine awp_skip ?_ | refine awp_exit ?_ | refine awp_label ?_ | refine u_dT ?_ | refine u_d ?_ | refine u_l ?_ | refine u_o ?_ | refine u_q ?_ | refine u_lr ?_ | refine u_qr ?_ | refine u_ls ?_ | refine u_qs ?_ | refine u_t ?_ | refine u_f ?_ | refine v_s ?_ | refine v_o ?_ | refine v_on ?_ | refine v_og ?_ | refine v_q ?_ | refine v_sr ?_ | refine v_k ?_ | refine m_nil ?_)
        refine awp_nilSlot 8 7777 2 1 rfl rfl rfl ?_
        (refine awp_ret ?_; (repeat (first | refine then_r ?_ | refine block_r ?_ | refine loop_r ?_)); refine u_rH [(7777, 30000)] ?_ ?_)
        · rfl
        · rfl

end Go.Proofs.Ytkomkhigcdkpdaa
