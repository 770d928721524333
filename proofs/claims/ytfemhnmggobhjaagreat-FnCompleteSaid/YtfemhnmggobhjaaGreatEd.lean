/- The machine with a number, and the search for a word that tells machines apart as new memory, in the program. No condition. -/
import Derived.Test.YtfemhnmggobhjaaGreatEb
namespace Go.Proofs.YtfemhnmggobhjaaGreat
open Go
attribute [local irreducible] awp awpL awpQL awpQ awpM pWalk Qt AC thenQ blockQ loopQ OpTo
set_option linter.unusedVariables false
set_option linter.unusedSimpArgs false
set_option maxHeartbeats 2000000
attribute [local irreducible] HC
section
variable {s o : Int} {nx ou : List (List Int)}
theorem impl_numberedH (m : MV s o nx ou) {n : Nat} {number : Int} (hn : 1 <= n /\ n <= 10) (h0 : 0 <= number /\ number <= 1500000) :
    HC Tryz.prog 90 [.d (mach s o nx ou), .d (.int .i64 n), .d (.int .i64 number)] [] (.agg [.d (.int .i64 n), .d (.int .i64 o), .own 30000, .own 30001])
      [(30000, .rows 43 2 1 (rws (numX n o nx.length number).1) none), (30001, .rows 43 2 1 (rws (numX n o nx.length number).2) none)] := by
  have ho := m.o1
  have hL := m.n1
  have hle : (List.map ints nx).length = nx.length := by simp
  have hir := iterN_range (n := (n : Int)) (o := o) (number := number) (by omega) ho.1 h0.1
  have hz : List.replicate ((n : Nat) : Int).toNat (D.int .i64 0) = (fnL n fun _ => 0).map (.int .i64) := by rw [Int.toNat_natCast]; exact fnL_zero
  have hrl : ∀ L F, (rws (tabI L n F)).length = L := fun L F => by rw [rws_length, tabI_length]
  have hfl : ∀ F, ((fnL n F).map (D.int .i64)).length = n := fun F => by simp
  unfold numX
  generalize hLL : nx.length = L at *
  refine hc_intro tabIs _ Tryz.func90 rfl rfl Tryz.ntmps90 rfl rfl rfl ?_ fun w0 ok0 XM XA anc he0 hX0 => ?_
  . exact likeIn_nil
  repeat (first | refine zc ?_ | refine zv ?_)
  refine awp_nilCell 7 2 200 43 1 (by exact rfl) (by exact rfl) rfl rfl rfl ?_
  refine awp_toRows 200 2 1 rfl rfl rfl rfl ?_
  refine awp_nilCell 7 3 201 43 1 (by exact rfl) (by exact rfl) rfl rfl rfl ?_
  refine awp_toRows 201 2 1 rfl rfl rfl rfl ?_
  refine awp_perm [(6, .box [.d (.int .i64 0), .d (.int .i64 0), .d .nils, .d .nils]), (7, .box [.d (.int .i64 n), .d (.int .i64 o), .own 200, .own 201]), (200, .rows 43 2 1 (rws (tabI 0 n fun _ _ => 0)) none), (201, .rows 43 2 1 (rws (tabI 0 n fun _ _ => 0)) none)] rfl ?_
  refine awp_loop (fun k : Nat => k <= L) (fun k => [(1, .d (.int .i64 n)), (2, .d (.int .i64 number)), (3, .d (.ptr (mach s o nx ou))), (6, .ref 6 0), (7, .ref 7 0), (16, .d (.int .i64 (List.map ints nx).length)), (17, .d (.int .i64 k))])
    (fun k => [(6, .box [.d (.int .i64 0), .d (.int .i64 0), .d .nils, .d .nils]), (7, .box [.d (.int .i64 n), .d (.int .i64 o), .own 200, .own 201]), (200, .rows 43 2 1 (rws (tabI k n fun _ _ => 0)) none), (201, .rows 43 2 1 (rws (tabI k n fun _ _ => 0)) none)]) (fun k => L - k) 0 (by omega) ?_ rfl ?_
  . exact zs
  . intro k hk
    have hr1 := hrl k fun _ _ => 0
    by_cases hlt : k < L
    . have hsn : rws (tabI (k + 1) n fun _ _ => 0) = rws (tabI k n fun _ _ => 0) ++ [(fnL n fun _ => 0).map (.int .i64)] := by rw [tabI_snoc]; simp [rws]
      repeat (first | refine zcn ?_ | refine zv ?_)
      refine u_mJ [(3, [22]), (4, [22, 23]), (5, [200, 23]), (9, [28]), (10, [28, 29]), (11, [201, 29]), (13, [7]), (15, [7])] (.tk [22, 23, 28, 29] [0, 1, 2] (.tk [22, 23, 200, 28, 29] [6, 7, 8] (.fork 3 9 (.fork 4 9 (.fork 5 9 (.tk [] [9, 10] (.tk [] [11] (.tk [28, 29, 201] [12] (.tk [] [13, 14, 15] .done)))) (.fork 5 10 (.tk [] [10] (.tk [] [11] (.tk [28, 29, 201] [12] (.tk [] [13, 14, 15] .done)))) (.tk [] [5] (.tk [] [11] (.tk [28, 29, 201] [12] (.tk [] [13, 14, 15] .done)))))) (.fork 4 10 (.fork 5 10 (.tk [] [10] (.tk [] [11] (.tk [28, 29, 201] [12] (.tk [] [13, 14, 15] .done)))) (.tk [] [5] (.tk [] [11] (.tk [28, 29, 201] [12] (.tk [] [13, 14, 15] .done))))) (.tk [] [4, 5] (.tk [] [11] (.tk [28, 29, 201] [12] (.tk [] [13, 14, 15] .done)))))) (.fork 3 10 (.fork 4 10 (.fork 5 10 (.tk [] [10] (.tk [] [11] (.tk [28, 29, 201] [12] (.tk [] [13, 14, 15] .done)))) (.tk [] [5] (.tk [] [11] (.tk [28, 29, 201] [12] (.tk [] [13, 14, 15] .done))))) (.tk [] [4, 5] (.tk [] [11] (.tk [28, 29, 201] [12] (.tk [] [13, 14, 15] .done))))) (.tk [] [3, 4, 5] (.tk [] [11] (.tk [28, 29, 201] [12] (.tk [] [13, 14, 15] .done))))))))
        [(1, .d (.int .i64 n)), (2, .d (.int .i64 number)), (3, .d (.ptr (mach s o nx ou))), (6, .ref 6 0), (7, .ref 7 0), (16, .d (.int .i64 (List.map ints nx).length)), (17, .d (.int .i64 k))]
        [(6, .box [.d (.int .i64 0), .d (.int .i64 0), .d .nils, .d .nils]), (7, .box [.d (.int .i64 n), .d (.int .i64 o), .own 200, .own 201]), (200, .rows 43 2 1 (rws (tabI k n fun _ _ => 0) ++ [List.replicate ((n : Nat) : Int).toNat (D.int .i64 0)]) none), (201, .rows 43 2 1 (rws (tabI k n fun _ _ => 0) ++ [List.replicate ((n : Nat) : Int).toNat (D.int .i64 0)]) none)] ?_ ?_
      . repeat' (first | refine m_fork ?_ ?_ | refine m_fork3 ?_ ?_ ?_ | refine zc ?_ | refine zv ?_)
        all_goals exact ⟨by exact zs, perm_of_sort rfl⟩
      rw [hz, <- hsn]
      repeat (first | refine zc ?_ | refine zv ?_)
      refine loop_n (k + 1) (by omega) ?_ rfl (by omega)
      exact zs
    . have : k = L := by omega
      subst this
      have hp0 := parT_none (L := k) (n := n) (V := vN n o number)
      have hp1 := parT_none (L := k) (n := n) (V := vO n o number)
      have hh : ([(6, .box [.d (.int .i64 0), .d (.int .i64 0), .d .nils, .d .nils]), (7, .box [.d (.int .i64 n), .d (.int .i64 o), .own 200, .own 201]), (200, .rows 43 2 1 (rws (tabI k n fun _ _ => 0)) none), (201, .rows 43 2 1 (rws (tabI k n fun _ _ => 0)) none)] : Heap)
        = [(6, .box [.d (.int .i64 0), .d (.int .i64 0), .d .nils, .d .nils]), (7, .box [.d (.int .i64 n), .d (.int .i64 o), .own 200, .own 201]), (200, .rows 43 2 1 (rws (tabI k n (parT k n (vN n o number) 0 0))) none), (201, .rows 43 2 1 (rws (tabI k n (parT k n (vO n o number) 0 0))) none)] := by rw [<- hp0, <- hp1]
      rw [hh]
      have hL1 : (k : Int) - 1 = (k : Int) - 1 - (0 : Nat) := by simp
      repeat (first | refine zc ?_ | refine zv ?_)
      refine awp_loop (fun j : Nat => j <= k) (fun j => [(1, .d (.int .i64 n)), (2, .d (.int .i64 (iterN n o number (j * n)))), (3, .d (.ptr (mach s o nx ou))), (6, .ref 6 0), (7, .ref 7 0), (8, .d (.int .i64 ((k : Int) - 1 - j)))])
        (fun j => [(6, .box [.d (.int .i64 0), .d (.int .i64 0), .d .nils, .d .nils]), (7, .box [.d (.int .i64 n), .d (.int .i64 o), .own 200, .own 201]), (200, .rows 43 2 1 (rws (tabI k n (parT k n (vN n o number) j 0))) none), (201, .rows 43 2 1 (rws (tabI k n (parT k n (vO n o number) j 0))) none)]) (fun j => k - j) 0 (by omega) ?_ rfl ?_
      . refine ⟨rfl, ?_, rfl, rfl, rfl, ?_, trivial⟩
        . simp [lk, iterN]
        . show SV.d (.int .i64 (((List.map ints nx).length : Int) - 1)) = _
          rw [hle, <- hL1]
      . intro j hj
        by_cases hjl : j < k
        . repeat (first | refine zc ?_ | refine zv ?_)
          refine awp_loop (fun i : Nat => i <= n) (fun i => [(1, .d (.int .i64 n)), (2, .d (.int .i64 (iterN n o number (j * n + i)))), (3, .d (.ptr (mach s o nx ou))), (6, .ref 6 0), (7, .ref 7 0), (8, .d (.int .i64 ((k : Int) - 1 - j))), (9, .d (.int .i64 ((n : Int) - 1 - i)))])
            (fun i => [(6, .box [.d (.int .i64 0), .d (.int .i64 0), .d .nils, .d .nils]), (7, .box [.d (.int .i64 n), .d (.int .i64 o), .own 200, .own 201]), (200, .rows 43 2 1 (rws (tabI k n (parT k n (vN n o number) j i))) none), (201, .rows 43 2 1 (rws (tabI k n (parT k n (vO n o number) j i))) none)]) (fun i => n - i) 0 (by omega) ?_ rfl ?_
          . refine ⟨rfl, rfl, rfl, rfl, rfl, rfl, ?_, trivial⟩
            show SV.d (.int .i64 ((n : Int) - 1)) = SV.d (.int .i64 ((n : Int) - 1 - (0 : Nat)))
            simp
          . intro i hi
            by_cases hil : i < n
            . have hr := hir (j * n + i)
              have hstep : iterN n o number (j * n + (i + 1)) = iterN n o number (j * n + i) / o / n := rfl
              have hvO : vO n o number (j * n + i) = iterN n o number (j * n + i) % o := rfl
              have hvN : vN n o number (j * n + i) = iterN n o number (j * n + i) / o % n := rfl
              have hlx : (k : Int) - 1 - j = ((k - 1 - j : Nat) : Int) := by omega
              have hsx : (n : Int) - 1 - i = ((n - 1 - i : Nat) : Int) := by omega
              have hnx : ((n : Int) - 1 - i) - 1 = (n : Int) - 1 - ((i + 1 : Nat) : Int) := by omega
              have g1 := rws_tabI_get (n := n) (F := parT k n (vO n o number) j i) (show k - 1 - j < k by omega)
              have g2 := rws_tabI_get (n := n) (F := parT k n (vN n o number) j i) (show k - 1 - j < k by omega)
              have p1 := rws_tabI_set (L := k) (n := n) (l := k - 1 - j) (k := n - 1 - i) (F := parT k n (vO n o number) j i) (v := iterN n o number (j * n + i) % o)
              have p2 := rws_tabI_set (L := k) (n := n) (l := k - 1 - j) (k := n - 1 - i) (F := parT k n (vN n o number) j i) (v := iterN n o number (j * n + i) / o % n)
              rw [<- hvO, parT_next hjl hil] at p1
              rw [<- hvN, parT_next hjl hil] at p2
              have hq1 : 0 <= iterN n o number (j * n + i) / o := Int.ediv_nonneg hr.1 (by omega)
              have hq2 : iterN n o number (j * n + i) / o <= iterN n o number (j * n + i) := Int.ediv_le_self _ hr.1
              have hlT : ((k : Int) - 1 - j).toNat = k - 1 - j := by omega
              have hsT : ((n : Int) - 1 - i).toNat = n - 1 - i := by omega
              have hl1 := hrl k (parT k n (vO n o number) j i)
              have hl2 := hrl k (parT k n (vN n o number) j i)
              rw [<- hlT] at g1 g2
              generalize iterN n o number (j * n + i) = u at *
              repeat (first | refine zcn ?_ | refine zv ?_)
              refine awp_carve0 201 ((k : Int) - 1 - j).toNat 300 rfl g1 rfl rfl rfl ?_
              repeat (first | refine zcr ?_ | ((first | apply x_l | apply x_q | apply x_lr | apply x_qr); (focus (first | (apply wa_loadHole; (iterate 5 (focus (first | exact rfl | (first | assumption | omega | (simp; omega) | (simp; done) | rfl))))))); exact rfl) | (apply v_x; (iterate 2 exact rfl); (focus (intro ok0 nw hle; (first | (apply wa_loadHole; (iterate 5 (focus (first | exact rfl | (first | assumption | omega | (simp; omega) | (simp; done) | rfl)))))))); (iterate 2 exact rfl)) | refine zv ?_)
              refine awp_back 201 300 (by exact rfl) (by exact rfl) (by exact rfl) (by exact rfl) (by exact rfl) (by exact rfl) g1 (by simp) ?_
              repeat (first | refine zcn ?_ | refine zv ?_)
              refine awp_carve0 200 ((k : Int) - 1 - j).toNat 300 rfl g2 rfl rfl rfl ?_
              repeat (first | refine zcr ?_ | ((first | apply x_l | apply x_q | apply x_lr | apply x_qr); (focus (first | (apply wa_loadHole; (iterate 5 (focus (first | exact rfl | (first | assumption | omega | (simp; omega) | (simp; done) | rfl))))))); exact rfl) | (apply v_x; (iterate 2 exact rfl); (focus (intro ok0 nw hle; (first | (apply wa_loadHole; (iterate 5 (focus (first | exact rfl | (first | assumption | omega | (simp; omega) | (simp; done) | rfl)))))))); (iterate 2 exact rfl)) | refine zv ?_)
              refine awp_back 200 300 (by exact rfl) (by exact rfl) (by exact rfl) (by exact rfl) (by exact rfl) (by exact rfl) g2 (by simp) ?_
              refine awp_perm _ rfl ?_
              repeat (first | refine zc ?_ | refine zv ?_)
              refine loop_n (i + 1) (by omega) ?_ ?_ (by omega)
              . rw [hstep, <- hnx]; exact zs
              . rw [<- p1, <- p2, <- hlT, <- hsT]
                rw [hvO, hvN]
                rfl
            . have : i = n := by omega
              subst this
              have hjn : j * i + i = (j + 1) * i := (Nat.succ_mul j i).symm
              have hnx : ((k : Int) - 1 - j) - 1 = (k : Int) - 1 - ((j + 1 : Nat) : Int) := by omega
              rw [parT_row, parT_row, hjn]
              repeat (first | refine zc ?_ | refine zv ?_)
              refine loop_n (j + 1) (by omega) ?_ rfl (by omega)
              rw [<- hnx]
              exact zs
        . have : j = k := by omega
          subst this
          rw [parT_all, parT_all]
          repeat (first | refine zc ?_ | refine zv ?_)
          (refine zb ?_; refine u_rH [(200, 30000), (201, 30001)] ?_ ?_)
          . rfl
          . rfl
end
theorem impl_apartH {s o s' o' : Int} {nx ou nx' ou' : List (List Int)} {I : Nat} {R : List Int × Bool} (m : MV s o nx ou) (m' : MV s' o' nx' ou') (he : nx'.length = nx.length) (hS : Srch nx ou nx' ou' I R) (hI : I <= 1000) :
    HC Tryz.prog 82 [.d (mach s o nx ou), .d (mach s' o' nx' ou'), .d (.int .i64 0), .d (.int .i64 0)] [] (.tup [.own 30000, .d (.bool R.2)]) [(30000, .arr 2 1 (R.1.map (.int .i64)))] := by
  have hs := m.s1
  have hs' := m'.s1
  have hn := m.n1
  have heq := m.eq
  have heq' := m'.eq
  have hle : (List.map ints nx).length = nx.length := by simp
  have hok := fun i => lstP_ok m m' he i
  have hpl : ∀ L : PL, (plD L).length = L.length := fun L => by simp [plD]
  have hclo : ∀ w : List Int, w.length <= 1048576 -> HC Tryz.prog 121 [.d (ints w)] [] (.own 30000) [(30000, .arr 2 1 (w.map (.int .i64)))] := fun w h => impl_cloneH h
  have hpi := pairIs
  refine hc_intro tabIs _ Tryz.func82 rfl rfl Tryz.ntmps82 rfl rfl rfl ?_ fun w0 ok0 XM XA anc he0 hX0 => ?_
  . exact likeIn_nil
  repeat (first | refine zcn ?_ | refine zv ?_)
  refine u_mJ [(3, [22]), (4, [23]), (9, [23])] (.tk [22, 23] [0, 1, 2, 5, 6, 7, 8] (.fork 3 4 (.tk [] [4, 9] (.tk [22] [10] (.tk [23] [11] (.tk [] [12] .done)))) (.fork 3 9 (.tk [] [9] (.tk [22] [10] (.tk [23] [11] (.tk [] [12] .done)))) (.tk [22] [10] (.tk [] [3] (.tk [23] [11] (.tk [] [12] .done)))))))
    [(4, .d (.ptr (mach s o nx ou))), (5, .d (.ptr (mach s' o' nx' ou'))), (10, .own 22), (11, .own 23)]
    [(22, .arr 127 2 (plD (lstP nx nx' 0))), (23, .map (wmD (lstP nx nx' 0)))] ?_ ?_
  . repeat (first | refine zc ?_ | refine zv ?_)
    refine m_fork ?_ ?_
    . repeat (first | refine v_w (t := 22) ?_ | refine zc ?_ | refine u_w (t := 22) ?_ | refine zv ?_)
      refine v_on ?_ (ho := by (intro rest; apply wo_mapInsertP; (iterate 6 exact rfl); exact pairIs; exact rfl))
      repeat (first | refine zc ?_ | refine zv ?_)
      exact ⟨by exact zs, perm_of_sort rfl⟩
    . repeat (first | refine zc ?_ | refine zv ?_)
      refine m_fork ?_ ?_
      . repeat (first | refine v_w (t := 22) ?_ | refine zc ?_ | refine u_w (t := 22) ?_ | refine zv ?_)
        refine v_on ?_ (ho := by (intro rest; apply wo_mapInsertP; (iterate 6 exact rfl); exact pairIs; exact rfl))
        repeat (first | refine zc ?_ | refine zv ?_)
        exact ⟨by exact zs, perm_of_sort rfl⟩
      . refine v_on ?_ (ho := by (intro rest; apply wo_mapInsertP; (iterate 6 exact rfl); exact pairIs; exact rfl))
        repeat (first | refine v_w (t := 22) ?_ | refine zc ?_ | refine u_w (t := 22) ?_ | refine zv ?_)
        exact ⟨by exact zs, perm_of_sort rfl⟩
  . repeat (first | refine zc ?_ | refine zv ?_)
    refine awp_loop (fun i : Nat => i <= I) (fun i => [(4, .d (.ptr (mach s o nx ou))), (5, .d (.ptr (mach s' o' nx' ou'))), (10, .own 22), (11, .own 23), (12, .d (.int .i64 i))]) (fun i => [(22, .arr 127 2 (plD (lstP nx nx' i))), (23, .map (wmD (lstP nx nx' i)))]) (fun i => I + 1 - i) 0 (by omega) ?_ rfl ?_
    . exact zs
    . intro i hi
      have hoki := hok i
      have hlen := hoki.len hs.2 hs'.2
      have hpli := hpl (lstP nx nx' i)
      by_cases hlt : i < (lstP nx nx' i).length
      . obtain ⟨p, hp⟩ : ∃ p, (lstP nx nx' i)[i]? = some p := ⟨_, List.getElem?_eq_getElem hlt⟩
        have hnext := lstP_next hp
        have hhit := fun x => srch_hit (x := x) hS hi hp
        have hgo := srch_go hS hi hp
        have hpm := List.mem_of_getElem? hp
        have hpl0 := hoki.lt p hpm
        have hwl := hoki.wl p hpm
        have hpre := letP_pre nx nx' p (lstP nx nx' i)
        have hokx := letP_ok m m' he hoki hpm
        have hel : (plD (lstP nx nx' i))[(i : Int).toNat]? = some (.agg [.int .i64 ((p.1 / 16 : Nat) : Int), .int .i64 ((p.1 % 16 : Nat) : Int)]) := by
          unfold plD
          rw [List.getElem?_map, Int.toNat_natCast, hp]
          rfl
        have hdf : ∀ x, difP ou ou' p.1 x = decide (¬ at2 ou x (p.1 / 16 : Nat) = at2 ou' x (p.1 % 16 : Nat)) := fun _ => rfl
        have hnx := fun x (hx : x < nx.length) => nxP_ok m m' he (c := p.1) (x := x) hx hpl0
        generalize hc : lstP nx nx' i = L at *
        have h0 : L = letP nx nx' p L 0 := rfl
        repeat (first | refine zc ?_ | ((first | apply x_l | apply x_q | apply x_lr | apply x_qr); (focus (first | (apply wa_loadEltA; (iterate 6 (focus (first | exact rfl | (first | assumption | omega | (simp; omega) | (simp; done) | rfl))))))); exact rfl) | (apply v_x; (iterate 2 exact rfl); (focus (intro ok0 nw hle; (first | (apply wa_loadEltA; (iterate 6 (focus (first | exact rfl | (first | assumption | omega | (simp; omega) | (simp; done) | rfl)))))))); (iterate 2 exact rfl)) | refine zv ?_)
        refine awp_freezeB 13 rfl rfl rfl ?_
        refine awp_perm [(22, .arr 127 2 (plD (letP nx nx' p L 0))), (23, .map (wmD (letP nx nx' p L 0)))] rfl ?_
        refine awp_loop (fun x : Nat => x <= nx.length /\ ∀ y, y < x -> difP ou ou' p.1 y = false) (fun x => [(4, .d (.ptr (mach s o nx ou))), (5, .d (.ptr (mach s' o' nx' ou'))), (10, .own 22), (11, .own 23), (12, .d (.int .i64 i)), (13, .d (.ptr (.agg [.int .i64 ((p.1 / 16 : Nat) : Int), .int .i64 ((p.1 % 16 : Nat) : Int)]))), (41, .d (.int .i64 nx.length)), (42, .d (.int .i64 x))])
          (fun x => [(22, .arr 127 2 (plD (letP nx nx' p L x))), (23, .map (wmD (letP nx nx' p L x)))]) (fun x => nx.length - x) 0 (by exact ⟨by omega, fun y h => by omega⟩) ?_ rfl ?_
        . refine ⟨rfl, rfl, rfl, rfl, rfl, rfl, ?_, rfl, trivial⟩
          exact congrArg (fun n : Nat => SV.d (.int .i64 n)) hle
        . rintro x ⟨hx, hb⟩
          have hokk := hokx x hx
          have hlenk := hokk.len hs.2 hs'.2
          have hplk := hpl (letP nx nx' p L x)
          by_cases hxl : x < nx.length
          . obtain ⟨t, ht⟩ := hpre x
            have hpi' : (letP nx nx' p L x)[i]? = some p := by rw [ht, List.getElem?_append_left hlt]; exact hp
            have hstep : letP nx nx' p L (x + 1) = addP (letP nx nx' p L x) (nxP nx nx' p.1 x) (p.2 ++ [(x : Int)]) := rfl
            obtain ⟨n1, n2, n3, n4⟩ := hnx x hxl
            have hget := wm_get hokk.nd hpi'
            have hnone := wm_none (c := nxP nx nx' p.1 x) (L := letP nx nx' p L x)
            have hput := wm_put (c := nxP nx nx' p.1 x) (w := p.2 ++ [(x : Int)]) (L := letP nx nx' p L x)
            have hkeys := wm_keys (letP nx nx' p L x)
            have hmet : nxP nx nx' p.1 x ∈ (letP nx nx' p L x).map (·.1) -> ∃ (q : Nat × List Int) (j : Nat), (letP nx nx' p L x)[j]? = some q /\ q.1 = nxP nx nx' p.1 x := fun h => by
              obtain ⟨q, hq, hq2⟩ := List.mem_map.1 h
              obtain ⟨j, hj, hj2⟩ := List.getElem_of_mem hq
              exact ⟨q, j, by rw [List.getElem?_eq_getElem hj, hj2], hq2⟩
            have hnd := hokk.nd
            generalize letP nx nx' p L x = K at *
            have hg1 : MGetP ((p.1 / 16 : Nat) : Int) ((p.1 % 16 : Nat) : Int) (wmD K) (some (ints p.2)) := ⟨hget⟩
            have e1 := hclo p.2 (by omega)
            have hx' : 0 <= (x : Int) /\ (x : Int) < nx.length := by omega
            have ro1 := el_row2 (xs := ou) (l := (x : Int)) (by omega)
            have ro2 := el_row2 (xs := ou') (l := (x : Int)) (by omega)
            have rn1 := el_row2 (xs := nx) (l := (x : Int)) (by omega)
            have rn2 := el_row2 (xs := nx') (l := (x : Int)) (by omega)
            have l1 := tbl_row m.ou (l := (x : Int)) (by omega)
            have l2 := tbl_row m'.ou (l := (x : Int)) (by omega)
            have l3 := tbl_row m.nx (l := (x : Int)) (by omega)
            have l4 := tbl_row m'.nx (l := (x : Int)) (by omega)
            have eo1 : (List.map (D.int .i64) (row ou x))[((p.1 / 16 : Nat) : Int).toNat]? = some (.int .i64 (at2 ou x (p.1 / 16 : Nat))) := el_int2 (ns := row ou x) (q := ((p.1 / 16 : Nat) : Int)) (by omega)
            have eo2 : (List.map (D.int .i64) (row ou' x))[((p.1 % 16 : Nat) : Int).toNat]? = some (.int .i64 (at2 ou' x (p.1 % 16 : Nat))) := el_int2 (ns := row ou' x) (q := ((p.1 % 16 : Nat) : Int)) (by omega)
            have en1 : (List.map (D.int .i64) (row nx x))[((p.1 / 16 : Nat) : Int).toNat]? = some (.int .i64 (at2 nx x (p.1 / 16 : Nat))) := el_int2 (ns := row nx x) (q := ((p.1 / 16 : Nat) : Int)) (by omega)
            have en2 : (List.map (D.int .i64) (row nx' x))[((p.1 % 16 : Nat) : Int).toNat]? = some (.int .i64 (at2 nx' x (p.1 % 16 : Nat))) := el_int2 (ns := row nx' x) (q := ((p.1 % 16 : Nat) : Int)) (by omega)
            have hdx := hdf x
            have hwm : (p.2.map (D.int .i64)).length = p.2.length := by simp
            repeat (first | refine zc ?_ | ((first | apply x_l | apply x_q | apply x_lr | apply x_qr); (focus (first | (apply wa_gotP; (iterate 10 (focus (first | exact rfl | (first | assumption | omega | (simp; omega) | (simp; done) | rfl))))))); exact rfl) | (apply v_x; (iterate 2 exact rfl); (focus (intro ok0 nw hle; (first | (apply wa_gotP; (iterate 10 (focus (first | exact rfl | (first | assumption | omega | (simp; omega) | (simp; done) | rfl)))))))); (iterate 2 exact rfl)) | refine zv ?_)
            refine hcl [] [(30000, 500)] e1 ?_
            cases hd : difP ou ou' p.1 x
            . rw [hd] at hdx
              have hcd : (!decide (at2 ou x (p.1 / 16 : Nat) = at2 ou' x (p.1 % 16 : Nat))) = false := by simpa using hdx
              repeat (first | refine zcn ?_ | refine zv ?_)
              refine awp_freeze 500 rfl rfl ?_
              refine u_d ?_
              repeat (first | refine zcn ?_ | refine zv ?_)
              refine u_m [(19, [16]), (20, [16])] (.tk [16] [0, 1, 2, 3, 4, 5, 6, 7, 8, 9, 10, 11, 12, 13, 14, 15, 16, 17, 18] (.tk [] [19, 20] .done)) ?_
              repeat (first | refine zcr ?_ | refine zv ?_)
              refine awp_freezeB 16 rfl rfl rfl ?_
              by_cases hmem : nxP nx nx' p.1 x ∈ K.map (·.1)
              . obtain ⟨q, j, hj1, hj2⟩ := hmet hmem
                have hg2 := wm_get hnd hj1
                rw [hj2, n1, n2] at hg2
                have hg2' : MGetP (at2 nx x (p.1 / 16 : Nat)) (at2 nx' x (p.1 % 16 : Nat)) (wmD K) (some (ints q.2)) := ⟨hg2⟩
                have hadd : addP K (nxP nx nx' p.1 x) (p.2 ++ [(x : Int)]) = K := if_pos hmem
                rw [hadd] at hstep
                repeat (first | refine zc ?_ | ((first | apply x_l | apply x_q | apply x_lr | apply x_qr); (focus (first | (apply wa_gotP; (iterate 10 (focus (first | exact rfl | (first | assumption | omega | (simp; omega) | (simp; done) | rfl))))))); exact rfl) | (apply v_x; (iterate 2 exact rfl); (focus (intro ok0 nw hle; (first | (apply wa_gotP; (iterate 10 (focus (first | exact rfl | (first | assumption | omega | (simp; omega) | (simp; done) | rfl)))))))); (iterate 2 exact rfl)) | refine zv ?_)
                refine loop_n (x + 1) ⟨by omega, fun y hy => ?_⟩ ?_ ?_ (by omega)
                . by_cases e : y = x
                  . subst e; exact hd
                  . exact hb y (by omega)
                . exact zs
                . rw [hstep]; rfl
              . have hg2 := hnone hmem
                rw [n1, n2] at hg2
                have hg2' : MGetP (at2 nx x (p.1 / 16 : Nat)) (at2 nx' x (p.1 % 16 : Nat)) (wmD K) none := ⟨hg2⟩
                have hadd : addP K (nxP nx nx' p.1 x) (p.2 ++ [(x : Int)]) = K ++ [(nxP nx nx' p.1 x, p.2 ++ [(x : Int)])] := if_neg hmem
                rw [hadd] at hstep
                have hput' := hput hmem
                rw [n1, n2] at hput'
                have hpl2 : plD (K ++ [(nxP nx nx' p.1 x, p.2 ++ [(x : Int)])]) = plD K ++ [.agg [.int .i64 (at2 nx x (p.1 / 16 : Nat)), .int .i64 (at2 nx' x (p.1 % 16 : Nat))]] := by
                  have : prD (nxP nx nx' p.1 x) = .agg [.int .i64 (at2 nx x (p.1 / 16 : Nat)), .int .i64 (at2 nx' x (p.1 % 16 : Nat))] := by
                    unfold prD pairD
                    rw [n1, n2]
                  simp [plD, this]
                repeat (first | refine zc ?_ | ((first | apply x_l | apply x_q | apply x_lr | apply x_qr); (focus (first | (apply wa_gotP; (iterate 10 (focus (first | exact rfl | (first | assumption | omega | (simp; omega) | (simp; done) | rfl))))))); exact rfl) | (apply v_x; (iterate 2 exact rfl); (focus (intro ok0 nw hle; (first | (apply wa_gotP; (iterate 10 (focus (first | exact rfl | (first | assumption | omega | (simp; omega) | (simp; done) | rfl)))))))); (iterate 2 exact rfl)) | refine zv ?_)
                (apply lto; (focus (apply wo_mapUpdateP; (iterate 6 exact rfl); exact pairIs; exact hkeys)))
                repeat (first | refine zc ?_ | refine zv ?_)
                refine loop_n (x + 1) ⟨by omega, fun y hy => ?_⟩ ?_ ?_ (by omega)
                . by_cases e : y = x
                  . subst e; exact hd
                  . exact hb y (by omega)
                . exact zs
                . have hints : ints (p.2 ++ [(x : Int)]) = D.lst (p.2.map (.int .i64) ++ [.int .i64 (x : Int)]) := by simp [ints]
                  rw [hstep, hpl2, <- hput', hints]
                  rfl
            . rw [hd] at hdx
              have hcd : (!decide (at2 ou x (p.1 / 16 : Nat) = at2 ou' x (p.1 % 16 : Nat))) = true := by simpa using hdx.symm
              have hR := hhit x hxl hd hb
              subst hR
              repeat (first | refine zc ?_ | refine zv ?_)
              (refine zb ?_; refine u_rH [(500, 30000)] ?_ ?_)
              . rfl
              . simp [pickH, pickG]; rfl
          . have : x = nx.length := by omega
            subst this
            have hiI := hgo hb
            rw [<- hnext]
            repeat (first | refine zc ?_ | refine zv ?_)
            refine loop_n (i + 1) (by omega) ?_ rfl (by omega)
            exact zs
      . have hR := srch_end hS hi (by omega)
        subst hR
        repeat (first | refine zc ?_ | refine zv ?_)
        refine awp_nilSlot 8 7777 2 1 rfl rfl rfl ?_
        (refine zb ?_; refine u_rH [(7777, 30000)] ?_ ?_)
        . rfl
        . rfl
end Go.Proofs.YtfemhnmggobhjaaGreat
namespace Go.Proofs.YtfemhnmggobhjaaGreat
open Go
attribute [local irreducible] awp awpL awpQL awpQ awpM pWalk Qt AC thenQ blockQ loopQ OpTo
set_option linter.unusedVariables false
set_option linter.unusedSimpArgs false
set_option maxHeartbeats 2000000
attribute [local irreducible] HC
noncomputable def hitB (o : Int) (nx ou ws : List (List Int)) (n k : Nat) : Bool :=
  decide ((failS nx ou (numX n o nx.length k).1 (numX n o nx.length k).2 0 ws).1 < 0) && (apR nx ou (numX n o nx.length k).1 (numX n o nx.length k).2).2
structure Fst (o : Int) (nx ou ws : List (List Int)) (st : Nat) (r : Option (Nat × Nat)) : Prop where
  no : r = none -> ∀ n, 1 <= n -> n <= st -> ∀ k : Nat, (k : Int) < cntM n o nx.length -> hitB o nx ou ws n k = false
  yes : ∀ n k, r = some (n, k) -> (1 <= n /\ n <= st /\ (k : Int) < cntM n o nx.length /\ hitB o nx ou ws n k = true) /\ (∀ k', k' < k -> hitB o nx ou ws n k' = false) /\ ∀ n', 1 <= n' -> n' < n -> ∀ k : Nat, (k : Int) < cntM n' o nx.length -> hitB o nx ou ws n' k = false
theorem fst_ex (o : Int) (nx ou ws : List (List Int)) (st : Nat) : ∃ r, Fst o nx ou ws st r := by
  by_cases h : ∃ n, (1 <= n /\ n <= st) /\ ∃ k : Nat, (k : Int) < cntM n o nx.length /\ hitB o nx ou ws n k = true
  . obtain ⟨n, hn, hk⟩ := h
    obtain ⟨n0, h1, ⟨h2, k, h3⟩, h4⟩ := firstEx (P := fun n => (1 <= n /\ n <= st) /\ ∃ k : Nat, (k : Int) < cntM n o nx.length /\ hitB o nx ou ws n k = true) n ⟨hn, hk⟩
    obtain ⟨k0, k1, k2, k3⟩ := firstEx (P := fun k => (k : Int) < cntM n0 o nx.length /\ hitB o nx ou ws n0 k = true) k h3
    refine ⟨some (n0, k0), (fun e => by cases e), fun n' k' e => ?_⟩
    cases e
    refine ⟨⟨h2.1, h2.2, k2.1, k2.2⟩, fun k' hk' => ?_, fun n' a b k' hk' => ?_⟩
    . cases hb : hitB o nx ou ws n0 k' with
      | false => rfl
      | true => exact absurd ⟨by omega, hb⟩ (k3 k' hk')
    . cases hb : hitB o nx ou ws n' k' with
      | false => rfl
      | true => exact absurd ⟨⟨a, by omega⟩, k', hk', hb⟩ (h4 n' b)
  . refine ⟨none, fun _ n a b k hk => ?_, (fun n k e => by cases e)⟩
    cases hb : hitB o nx ou ws n k with
    | false => rfl
    | true => exact absurd ⟨n, ⟨a, b⟩, k, hk, hb⟩ h
theorem fst_hit {o : Int} {nx ou ws : List (List Int)} {st n k : Nat} {r : Option (Nat × Nat)} (h : Fst o nx ou ws st r) (h1 : 1 <= n /\ n <= st) (h2 : (k : Int) < cntM n o nx.length) (h3 : hitB o nx ou ws n k = true) (h4 : ∀ k', k' < k -> hitB o nx ou ws n k' = false) (h5 : ∀ n', 1 <= n' -> n' < n -> ∀ k : Nat, (k : Int) < cntM n' o nx.length -> hitB o nx ou ws n' k = false) : r = some (n, k) := by
  cases r with
  | none => have := h.no rfl n h1.1 h1.2 k h2; rw [h3] at this; cases this
  | some p =>
    obtain ⟨n', k'⟩ := p
    obtain ⟨⟨a1, a2, a3, a4⟩, a5, a6⟩ := h.yes n' k' rfl
    have hn : n = n' := by
      rcases Nat.lt_trichotomy n n' with hh | hh | hh
      . have := a6 n h1.1 hh k h2; rw [h3] at this; cases this
      . exact hh
      . have := h5 n' a1 hh k' a3; rw [a4] at this; cases this
    subst hn
    have hk : k = k' := by
      rcases Nat.lt_trichotomy k k' with hh | hh | hh
      . have := a5 k hh; rw [h3] at this; cases this
      . exact hh
      . have := h4 k' hh; rw [a4] at this; cases this
    subst hk
    rfl
theorem fst_none {o : Int} {nx ou ws : List (List Int)} {st : Nat} {r : Option (Nat × Nat)} (h : Fst o nx ou ws st r) (h5 : ∀ n', 1 <= n' -> n' <= st -> ∀ k : Nat, (k : Int) < cntM n' o nx.length -> hitB o nx ou ws n' k = false) : r = none := by
  cases r with
  | none => rfl
  | some p =>
    obtain ⟨n', k'⟩ := p
    obtain ⟨⟨a1, a2, a3, a4⟩, _⟩ := h.yes n' k' rfl
    have := h5 n' a1 a2 k' a3; rw [a4] at this; cases this
noncomputable def fsD (s o : Int) (nx ou ws : List (List Int)) (st : Int) : (Int × Int) × (List (List Int) × List (List Int)) × Int :=
  if machOk s o nx ou then
    (if suiteOk nx.length ws && inB st 1 10 then
      (if 50000 < cntM st o nx.length then ((0, 0), ([], []), 3) else
        match Classical.choose (fst_ex o nx ou ws st.toNat) with
        | none => ((0, 0), ([], []), 6)
        | some p => (((p.1 : Int), o), numX p.1 o nx.length p.2, 0))
    else ((0, 0), ([], []), 2))
  else ((0, 0), ([], []), 1)
theorem impl_FirstSurvivor1 {s o st : Int} {nx ou ws : List (List Int)} (h1 : RowsOk nx) (h3 : RowsOk ws) : AC Tryz.prog 87 [.ptr (mach s o nx ou), .ptr (rows ws), .ptr (.int .i64 st)] (.bool (suiteOk nx.length ws && inB st 1 10)) := by
  have e1 := impl_isSuite (s := s) (o := o) (nx := nx) (ou := ou) (ws := ws) h1.2 h3
  have e2 := impl_within (n := st) (lo := 1) (hi := 10)
  cases hb : suiteOk nx.length ws
  . rw [hb] at e1
    refine ac_intro tabIs _ Tryz.func87 rfl rfl Tryz.ntmps87 rfl rfl fun w0 ok0 he0 => ?_
    repeat (first | refine zc ?_ | refine zk (e := by exact e1) (n := ?_) | refine zk (e := by exact e2) (n := ?_) | refine zv ?_)
    refine zt ?_
    rfl
  . rw [hb] at e1
    refine ac_intro tabIs _ Tryz.func87 rfl rfl Tryz.ntmps87 rfl rfl fun w0 ok0 he0 => ?_
    repeat (first | refine zc ?_ | refine zk (e := by exact e1) (n := ?_) | refine zk (e := by exact e2) (n := ?_) | refine zv ?_)
    refine zt ?_
    rfl
theorem impl_apartRH {s o s' o' : Int} {nx ou nx' ou' : List (List Int)} (m : MV s o nx ou) (m' : MV s' o' nx' ou') (he : nx'.length = nx.length) : HC Tryz.prog 82 [.d (mach s o nx ou), .d (.agg [.int .i64 s', .int .i64 o', .lst ((rws nx').map D.lst), .lst ((rws ou').map D.lst)]), .d (.int .i64 0), .d (.int .i64 0)] [] (.tup [.own 30000, .d (.bool (apR nx ou nx' ou').2)]) [(30000, .arr 2 1 ((apR nx ou nx' ou').1.map (.int .i64)))] := by
  obtain ⟨I, h1, h2⟩ := apR_srch m m' he
  have := impl_apartH m m' he h2 (by omega)
  rw [rws_dat, rws_dat]
  exact this
theorem impl_FirstSurvivorH {s o st : Int} {nx ou ws : List (List Int)} (h1 : RowsOk nx) (h2 : RowsOk ou) (h3 : RowsOk ws) :
    HC Tryz.prog 37 [.d (mach s o nx ou), .d (rows ws), .d (.int .i64 st)] [] (.tup [.agg [.d (.int .i64 (fsD s o nx ou ws st).1.1), .d (.int .i64 (fsD s o nx ou ws st).1.2), .own 30000, .own 30001], .d (.int .i64 (fsD s o nx ou ws st).2.2)])
      [(30000, .rows 43 2 1 (rws (fsD s o nx ou ws st).2.1.1) none), (30001, .rows 43 2 1 (rws (fsD s o nx ou ws st).2.1.2) none)] := by
  have e1 := impl_code (s := s) (o := o) (g := 87) (cap := [.ptr (mach s o nx ou), .ptr (rows ws), .ptr (.int .i64 st)]) h1 h2 fun _ => impl_FirstSurvivor1 h1 h3
  unfold fsD
  by_cases hv : machOk s o nx ou = true
  . rw [if_pos hv] at e1 ⊢
    by_cases hr : (suiteOk nx.length ws && inB st 1 10) = true
    . rw [if_pos hr] at e1 ⊢
      rw [Bool.and_eq_true] at hr
      obtain ⟨q1, q2⟩ := suite_of hr.1
      have m := mv_of hv
      have hL := m.n1
      have ho := m.o1
      have hb := inB_iff.1 hr.2
      have e3 := impl_count m (n := st) hb
      by_cases hc : 50000 < cntM st o nx.length
      . rw [if_pos hc]
        refine hc_intro tabIs _ Tryz.func37 rfl rfl Tryz.ntmps37 rfl rfl rfl ?_ fun w0 ok0 XM XA anc he0 hX0 => ?_
        . exact likeIn_nil
        repeat (first | refine zc ?_ | refine zk (e := by exact e1) (n := ?_) | refine zk (e := by exact e3) (n := ?_) | refine zv ?_)
        refine awp_nilCell 6 2 300 43 1 (by exact rfl) (by exact rfl) rfl rfl rfl ?_
        refine awp_toRows 300 2 1 rfl rfl rfl rfl ?_
        refine awp_nilCell 6 3 301 43 1 (by exact rfl) (by exact rfl) rfl rfl rfl ?_
        refine awp_toRows 301 2 1 rfl rfl rfl rfl ?_
        (refine zb ?_; refine u_rH [(300, 30000), (301, 30001)] ?_ ?_)
        . rfl
        . rfl
      . rw [if_neg hc]
        have hF := Classical.choose_spec (fst_ex o nx ou ws st.toNat)
        generalize Classical.choose (fst_ex o nx ou ws st.toNat) = r at *
        have hcr : ∀ n : Nat, 1 <= n -> n <= 10 -> 1 <= cntM n o nx.length /\ cntM n o nx.length <= 1500000 := fun n a b => capC_range (no_range (n := (n : Int)) (by omega) ho) _
        have hmc : ∀ n : Nat, 1 <= n -> n <= 10 -> AC Tryz.prog 88 [.int .i64 n, .ptr (mach s o nx ou)] (.int .i64 (cntM n o nx.length)) := fun n a b => impl_count m (n := (n : Int)) (by omega)
        have hmv : ∀ n k : Nat, 1 <= n -> n <= 10 -> MV n o (numX n o nx.length k).1 (numX n o nx.length k).2 /\ (numX n o nx.length k).1.length = nx.length := fun n k a b => ⟨mv_num ⟨a, b⟩ ho hL (by omega), by simp [numX]⟩
        have hnu : ∀ n k : Nat, 1 <= n -> n <= 10 -> (k : Int) <= 1500000 -> HC Tryz.prog 90 [.d (mach s o nx ou), .d (.int .i64 n), .d (.int .i64 k)] [] (.agg [.d (.int .i64 n), .d (.int .i64 o), .own 30000, .own 30001])
            [(30000, .rows 43 2 1 (rws (numX n o nx.length k).1) none), (30001, .rows 43 2 1 (rws (numX n o nx.length k).2) none)] := fun n k a b c => impl_numberedH m ⟨a, b⟩ (by omega)
        have hfa : ∀ n k : Nat, 1 <= n -> n <= 10 -> AC Tryz.prog 91 [mach s o nx ou, .agg [.int .i64 n, .int .i64 o, .lst ((rws (numX n o nx.length k).1).map D.lst), .lst ((rws (numX n o nx.length k).2).map D.lst)], rows ws] (.bool (decide ((failS nx ou (numX n o nx.length k).1 (numX n o nx.length k).2 0 ws).1 < 0))) := fun n k a b => by
          rw [rws_dat, rws_dat]
          exact impl_passes m (hmv n k a b).1 (hmv n k a b).2 ⟨q1, q2⟩
        have hdi := fun n k a b => impl_apartRH m (hmv n k a b).1 (hmv n k a b).2
        have hhit : ∀ n k, hitB o nx ou ws n k = (decide ((failS nx ou (numX n o nx.length k).1 (numX n o nx.length k).2 0 ws).1 < 0) && (apR nx ou (numX n o nx.length k).1 (numX n o nx.length k).2).2) := fun _ _ => rfl
        have hfh := fun n k a b c d e => fst_hit (n := n) (k := k) hF a b c d e
        have hfn := fun h => fst_none hF h
        have hcc := hcr
        generalize cntM st o nx.length = cst at *
        refine hc_intro tabIs _ Tryz.func37 rfl rfl Tryz.ntmps37 rfl rfl rfl ?_ fun w0 ok0 XM XA anc he0 hX0 => ?_
        . exact likeIn_nil
        repeat (first | refine zc ?_ | refine zk (e := by exact e1) (n := ?_) | refine zk (e := by exact e3) (n := ?_) | refine zv ?_)
        refine awp_loop (fun n : Nat => 1 <= n /\ n <= st.toNat + 1 /\ ∀ n', 1 <= n' -> n' < n -> ∀ k : Nat, (k : Int) < cntM n' o nx.length -> hitB o nx ou ws n' k = false) (fun n => [(3, .d (.ptr (mach s o nx ou))), (4, .d (.ptr (rows ws))), (5, .d (.ptr (.int .i64 st))), (6, .ref 6 0), (9, .d (.fn 88 [.ptr (mach s o nx ou)])), (10, .d (.int .i64 n))]) (fun _ => [(6, .box [.d (.int .i64 0), .d (.int .i64 0), .d .nils, .d .nils])]) (fun n => st.toNat + 1 - n) 1 (by exact ⟨by omega, by omega, fun n' a b => by omega⟩) ?_ rfl ?_
        . exact zs
        . rintro n ⟨hn1, hn2, hno⟩
          by_cases hns : (n : Int) <= st
          . have e4 := hmc n hn1 (by omega)
            have hcn := hcc n hn1 (by omega)
            have hfhn := fun k => hfh n k ⟨hn1, by omega⟩
            have hnext : (∀ k : Nat, (k : Int) < cntM n o nx.length -> hitB o nx ou ws n k = false) -> ∀ n', 1 <= n' -> n' < n + 1 -> ∀ k : Nat, (k : Int) < cntM n' o nx.length -> hitB o nx ou ws n' k = false := fun hh n' a b k hk => by
              by_cases e : n' = n
              . subst e; exact hh k hk
              . exact hno n' a (by omega) k hk
            generalize hC : cntM n o nx.length = C at *
            repeat (first | refine zc ?_ | refine zk (e := by exact e4) (n := ?_) | refine zv ?_)
            refine awp_loop (fun k : Nat => (k : Int) <= C /\ ∀ k', k' < k -> hitB o nx ou ws n k' = false) (fun k => [(3, .d (.ptr (mach s o nx ou))), (4, .d (.ptr (rows ws))), (5, .d (.ptr (.int .i64 st))), (6, .ref 6 0), (9, .d (.fn 88 [.ptr (mach s o nx ou)])), (10, .d (.int .i64 n)), (35, .d (.int .i64 C)), (36, .d (.int .i64 k))]) (fun _ => [(6, .box [.d (.int .i64 0), .d (.int .i64 0), .d .nils, .d .nils])]) (fun k => C.toNat - k) 0 (by exact ⟨by omega, fun k' h => by omega⟩) ?_ rfl ?_
            . exact zs
            . rintro k ⟨hk, hkno⟩
              by_cases hkl : (k : Int) < C
              . have e5 := hnu n k hn1 (by omega) (by omega)
                have e6 := hfa n k hn1 (by omega)
                have e7 := hdi n k hn1 (by omega)
                have hh := hhit n k
                have hgo := fun h => hfhn k hkl h hkno hno
                generalize failS nx ou (numX n o nx.length k).1 (numX n o nx.length k).2 0 ws = p at *
                generalize apR nx ou (numX n o nx.length k).1 (numX n o nx.length k).2 = A at *
                by_cases hp : p.1 < 0
                . rw [decide_eq_true hp] at e6 hh
                  rw [Bool.true_and] at hh
                  cases hA : A.2
                  . rw [hA] at e7 hh
                    generalize numX n o nx.length k = X at *
                    repeat (first | refine zc ?_ | refine zv ?_)
                    refine hcl [] [(30000, 500), (30001, 501)] e5 ?_
                    repeat (first | refine zc ?_ | refine zk (e := by exact e6) (n := ?_) | refine zv ?_)
                    refine hlend (xs := [mach s o nx ou, .agg [.int .i64 n, .int .i64 o, .lst ((rws X.1).map D.lst), .lst ((rws X.2).map D.lst)], .int .i64 0, .int .i64 0]) (cap := []) [(30000, 503)] e7 ?_ ?_ ?_
                    . intro q hq
                      simp at hq
                      subst hq
                      intro x hx
                      simp at hx
                      obtain ⟨a, _, rfl⟩ := hx
                      rfl
                    . exact ⟨trivial, rfl, trivial⟩
                    repeat (first | refine zcr ?_ | refine zv ?_)
                    refine awp_freeze 503 rfl rfl ?_
                    refine awp_freeze 500 rfl rfl ?_
                    refine awp_freeze 501 rfl rfl ?_
                    refine awp_freezeB 12 rfl rfl rfl ?_
                    repeat (first | refine zc ?_ | refine zv ?_)
                    refine loop_n (k + 1) ⟨by omega, fun k' hk' => ?_⟩ ?_ rfl (by omega)
                    . by_cases e : k' = k
                      . subst e; exact hh
                      . exact hkno k' (by omega)
                    . exact zs
                  . rw [hA] at e7 hh
                    have hr' := hgo hh
                    subst hr'
                    simp only []
                    generalize numX n o nx.length k = X at *
                    repeat (first | refine zc ?_ | refine zv ?_)
                    refine hcl [] [(30000, 500), (30001, 501)] e5 ?_
                    repeat (first | refine zc ?_ | refine zk (e := by exact e6) (n := ?_) | refine zv ?_)
                    refine hlend (xs := [mach s o nx ou, .agg [.int .i64 n, .int .i64 o, .lst ((rws X.1).map D.lst), .lst ((rws X.2).map D.lst)], .int .i64 0, .int .i64 0]) (cap := []) [(30000, 503)] e7 ?_ ?_ ?_
                    . intro q hq
                      simp at hq
                      subst hq
                      intro x hx
                      simp at hx
                      obtain ⟨a, _, rfl⟩ := hx
                      rfl
                    . exact ⟨trivial, rfl, trivial⟩
                    repeat (first | refine zc ?_ | refine zv ?_)
                    (refine zb ?_; refine u_rH [(500, 30000), (501, 30001)] ?_ ?_)
                    . rfl
                    . rfl
                . rw [decide_eq_false hp] at e6 hh
                  rw [Bool.false_and] at hh
                  generalize numX n o nx.length k = X at *
                  repeat (first | refine zc ?_ | refine zv ?_)
                  refine hcl [] [(30000, 500), (30001, 501)] e5 ?_
                  repeat (first | refine zcr ?_ | refine zv ?_)
                  refine awp_freeze 500 rfl rfl ?_
                  refine awp_freeze 501 rfl rfl ?_
                  refine awp_freezeB 12 rfl rfl rfl ?_
                  repeat (first | refine zc ?_ | refine zk (e := by exact e6) (n := ?_) | refine zv ?_)
                  refine loop_n (k + 1) ⟨by omega, fun k' hk' => ?_⟩ ?_ rfl (by omega)
                  . by_cases e : k' = k
                    . subst e; exact hh
                    . exact hkno k' (by omega)
                  . exact zs
              . have hkC : k = C.toNat := by omega
                subst hkC
                repeat (first | refine zc ?_ | refine zv ?_)
                refine loop_n (n + 1) ⟨by omega, by omega, hnext fun k hk => hkno k (by omega)⟩ ?_ rfl (by omega)
                exact zs
          . have hr' := hfn fun n' a b k hk => hno n' a (by omega) k hk
            subst hr'
            repeat (first | refine zc ?_ | refine zv ?_)
            refine awp_nilCell 6 2 300 43 1 (by exact rfl) (by exact rfl) rfl rfl rfl ?_
            refine awp_toRows 300 2 1 rfl rfl rfl rfl ?_
            refine awp_nilCell 6 3 301 43 1 (by exact rfl) (by exact rfl) rfl rfl rfl ?_
            refine awp_toRows 301 2 1 rfl rfl rfl rfl ?_
            (refine zb ?_; refine u_rH [(300, 30000), (301, 30001)] ?_ ?_)
            . rfl
            . rfl
    . rw [if_neg hr] at e1 ⊢
      refine hc_intro tabIs _ Tryz.func37 rfl rfl Tryz.ntmps37 rfl rfl rfl ?_ fun w0 ok0 XM XA anc he0 hX0 => ?_
      . exact likeIn_nil
      repeat (first | refine zc ?_ | refine zk (e := by exact e1) (n := ?_) | refine zv ?_)
      refine awp_nilCell 6 2 300 43 1 (by exact rfl) (by exact rfl) rfl rfl rfl ?_
      refine awp_toRows 300 2 1 rfl rfl rfl rfl ?_
      refine awp_nilCell 6 3 301 43 1 (by exact rfl) (by exact rfl) rfl rfl rfl ?_
      refine awp_toRows 301 2 1 rfl rfl rfl rfl ?_
      (refine zb ?_; refine u_rH [(300, 30000), (301, 30001)] ?_ ?_)
      . rfl
      . rfl
  . rw [if_neg hv] at e1 ⊢
    refine hc_intro tabIs _ Tryz.func37 rfl rfl Tryz.ntmps37 rfl rfl rfl ?_ fun w0 ok0 XM XA anc he0 hX0 => ?_
    . exact likeIn_nil
    repeat (first | refine zc ?_ | refine zk (e := by exact e1) (n := ?_) | refine zv ?_)
    refine awp_nilCell 6 2 300 43 1 (by exact rfl) (by exact rfl) rfl rfl rfl ?_
    refine awp_toRows 300 2 1 rfl rfl rfl rfl ?_
    refine awp_nilCell 6 3 301 43 1 (by exact rfl) (by exact rfl) rfl rfl rfl ?_
    refine awp_toRows 301 2 1 rfl rfl rfl rfl ?_
    (refine zb ?_; refine u_rH [(300, 30000), (301, 30001)] ?_ ?_)
    . rfl
    . rfl
end Go.Proofs.YtfemhnmggobhjaaGreat
