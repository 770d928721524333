/- The program's machine whose states are picked, for all states. No condition. -/
import Derived.Test.YtfemhnmggobhjaaGreatNa
namespace Go.Proofs.YtfemhnmggobhjaaGreat
open Go
attribute [local irreducible] awp awpL awpQL awpQ awpM pWalk Qt AC thenQ blockQ loopQ OpTo
set_option linter.unusedVariables false
set_option linter.unusedSimpArgs false
set_option maxHeartbeats 2000000
attribute [local irreducible] HC
theorem impl_mutId {q : Int} : AC Tryz.prog 127 [.int .i64 q] (.int .i64 q) := by
  refine ac_intro tabIs _ Tryz.func127 rfl rfl Tryz.ntmps127 rfl rfl fun w0 ok0 he0 => ?_
  repeat (first | refine zc ?_ | refine zv ?_)
  refine zt ?_
  rfl
theorem ints_take {ns : List Int} {k : Nat} (hk : k < ns.length) : (ns.take k).map (D.int .i64) ++ [.int .i64 ns[k]] = (ns.take (k + 1)).map (D.int .i64) := by
  rw [List.take_succ_eq_append_getElem hk, List.map_append]
  rfl
theorem impl_pickedH {s o : Int} {nx ou : List (List Int)} (m : MV s o nx ou) :
    HC Tryz.prog 71 [.d (mach s o nx ou), .d (ints (mk1 0 s.toNat)), .d (.fn 127 [])] [] (.agg [.d (.int .i64 s), .d (.int .i64 o), .own 30000, .own 30001])
      [(30000, .rows 43 2 1 (rws nx) none), (30001, .rows 43 2 1 (rws ou) none)] := by
  have hs1 := m.s1
  have hn1 := m.n1
  have heq := m.eq
  have hL : (mk1 0 s.toNat).length = s.toNat := mk1_length _ _
  have hsz := impl_size1 (ns := mk1 0 s.toNat)
  rw [hL, show ((s.toNat : Nat) : Int) = s by omega] at hsz
  have hg : ∀ i : Nat, i < s.toNat -> (List.map (D.int .i64) (mk1 0 s.toNat))[(i : Int).toNat]? = some (.int .i64 i) := fun i hi => by simp [mk1_get s.toNat 0 i hi]
  have hm : (List.map (D.int .i64) (mk1 0 s.toNat)).length = s.toNat := by simp [hL]
  have mm1 : (List.map ints nx).length = nx.length := by simp
  refine hc_intro tabIs _ Tryz.func71 rfl rfl Tryz.ntmps71 rfl rfl rfl ?_ fun w0 ok0 XM XA anc he0 hX0 => ?_
  . exact likeIn_nil
  repeat (first | refine zcn ?_ | refine zv ?_)
  refine u_m [(5, [7]), (6, [7])] (.tk [7] [0, 1, 2, 3, 4] (.tk [] [5, 6] .done)) ?_
  repeat (first | refine zc ?_ | refine zk (e := by exact hsz) (n := ?_) | refine zv ?_)
  refine awp_nilCell 7 2 300 43 1 (by exact rfl) (by exact rfl) rfl rfl rfl ?_
  refine awp_toRows 300 2 1 rfl rfl rfl rfl ?_
  refine awp_nilCell 7 3 301 43 1 (by exact rfl) (by exact rfl) rfl rfl rfl ?_
  refine awp_toRows 301 2 1 rfl rfl rfl rfl ?_
  generalize mk1 0 s.toNat = L at *
  refine awp_perm [(6, .box [.d (.int .i64 0), .d (.int .i64 0), .d .nils, .d .nils]), (7, .box [.d (.int .i64 s), .d (.int .i64 o), .own 300, .own 301]), (300, .rows 43 2 1 [] none), (301, .rows 43 2 1 [] none)] rfl ?_
  refine awp_loop (fun k : Nat => k <= nx.length) (fun k => [(1, .d (ints L)), (2, .d (.fn 127 [])), (3, .d (.ptr (mach s o nx ou))), (6, .ref 6 0), (7, .ref 7 0), (20, .d (.int .i64 nx.length)), (21, .d (.int .i64 k))])
    (fun k => [(6, .box [.d (.int .i64 0), .d (.int .i64 0), .d .nils, .d .nils]), (7, .box [.d (.int .i64 s), .d (.int .i64 o), .own 300, .own 301]), (300, .rows 43 2 1 (rws (nx.take k)) none), (301, .rows 43 2 1 (rws (ou.take k)) none)]) (fun k => nx.length - k) 0 (by omega) ?_ rfl ?_
  . exact ⟨rfl, rfl, rfl, rfl, rfl, congrArg (fun n : Nat => SV.d (.int .i64 n)) mm1, rfl, trivial⟩
  . intro k hk
    have hrl1 : (rws (nx.take k)).length = k := by rw [rws_length]; simp; omega
    have hrl2 : (rws (ou.take k)).length = k := by rw [rws_length]; simp; omega
    by_cases hlt : k < nx.length
    . have hkl : 0 <= (k : Int) /\ (k : Int) < nx.length := by omega
      have hko : 0 <= (k : Int) /\ (k : Int) < ou.length := by omega
      have rl1 : ((row nx k).length : Int) = s := tbl_row m.nx hkl
      have rl2 : ((row ou k).length : Int) = s := tbl_row m.ou hko
      have g1 := el_row2 (xs := nx) hkl
      have g2 := el_row2 (xs := ou) hko
      have x1 : row nx k = nx[k] := by simp [row, List.getD_eq_getElem?_getD, hlt]
      have x2 : row ou k = ou[k]'(by omega) := by simp [row, List.getD_eq_getElem?_getD, show k < ou.length by omega]
      have t1 := rws_take hlt
      have t2 := rws_take (nss := ou) (k := k) (by omega)
      repeat (first | refine v_w (t := 25) ?_ | refine v_w (t := 24) ?_ | refine zc ?_ | refine u_w (t := 24) ?_ | refine u_w (t := 25) ?_ | refine zv ?_)
      refine awp_loop (fun i : Nat => (i : Int) <= s) (fun i => [(1, .d (ints L)), (2, .d (.fn 127 [])), (3, .d (.ptr (mach s o nx ou))), (6, .ref 6 0), (7, .ref 7 0), (8, .d (.int .i64 k)), (9, .own 24), (10, .own 25), (20, .d (.int .i64 nx.length)), (21, .d (.int .i64 k)), (26, .d (ints L)), (27, .d (.int .i64 s)), (28, .d (.int .i64 i))])
        (fun i => [(25, .arr 2 1 (((row ou k).take i).map (.int .i64))), (24, .arr 2 1 (((row nx k).take i).map (.int .i64))), (6, .box [.d (.int .i64 0), .d (.int .i64 0), .d .nils, .d .nils]), (7, .box [.d (.int .i64 s), .d (.int .i64 o), .own 300, .own 301]), (300, .rows 43 2 1 (rws (nx.take k)) none), (301, .rows 43 2 1 (rws (ou.take k)) none)]) (fun i => s.toNat - i) 0 (by omega) ?_ rfl ?_
      . exact zs
      . intro i hi
        by_cases hli : (i : Int) < s
        . have hgi := hg i (by omega)
          have y1 := el_int2 (ns := row nx k) (q := (i : Int)) (by omega)
          have y2 := el_int2 (ns := row ou k) (q := (i : Int)) (by omega)
          have z1 := ints_take (ns := row nx k) (k := i) (by omega)
          have z2 := ints_take (ns := row ou k) (k := i) (by omega)
          have w1 : (row nx k).getD (i : Int).toNat 0 = (row nx k)[i]'(by omega) := by simp [List.getD_eq_getElem?_getD, show i < (row nx k).length by omega]
          have w2 : (row ou k).getD (i : Int).toNat 0 = (row ou k)[i]'(by omega) := by simp [List.getD_eq_getElem?_getD, show i < (row ou k).length by omega]
          have l1 : (((row nx k).take i).map (D.int .i64)).length = i := by simp; omega
          have l2 : (((row ou k).take i).map (D.int .i64)).length = i := by simp; omega
          have cid := impl_mutId (q := (row nx k).getD (i : Int).toNat 0)
          rw [w1] at y1 cid
          rw [w2] at y2
          repeat (first | refine zcn ?_ | refine zv ?_)
          refine u_m [(12, [24]), (23, [25])] (.tk [] [0, 1, 2, 3, 4, 5, 6, 7, 8, 9, 10, 11, 12] (.tk [24] [13, 14, 15, 16, 17, 18, 19, 20, 21, 22] (.tk [] [23, 24, 25] .done))) ?_
          repeat (first | refine zc ?_ | refine zk (e := by exact cid) (n := ?_) | refine zv ?_)
          refine loop_n (i + 1) (by omega) ?_ ?_ (by omega)
          . exact zs
          . rw [<- z1, <- z2]; rfl
        . have hi' : i = s.toNat := by omega
          subst hi'
          have q1 : (row nx k).take s.toNat = row nx k := List.take_of_length_le (by omega)
          have q2 : (row ou k).take s.toNat = row ou k := List.take_of_length_le (by omega)
          rw [q1, q2]
          repeat (first | refine zcn ?_ | refine zv ?_)
          refine u_mJ [(3, [60, 24]), (4, [60, 300]), (8, [65, 25]), (9, [65, 301]), (11, [7]), (13, [7])]
            (.tk [60, 24, 65, 25] [0, 1] (.tk [65, 25] [2] (.tk [60, 24, 300, 65, 25] [5, 6] (.tk [60, 24, 300] [7] (.fork 3 8 (.fork 4 8 (.tk [60, 24, 300, 65, 25, 301] [8, 9, 10, 11, 12, 13] .done) (.tk [60, 24, 300, 65, 25, 301] [4, 9, 10, 11, 12, 13] .done)) (.tk [60, 24, 300, 65, 25, 301] [3, 4, 9, 10, 11, 12, 13] .done))))))
            [(1, .d (ints L)), (2, .d (.fn 127 [])), (3, .d (.ptr (mach s o nx ou))), (6, .ref 6 0), (7, .ref 7 0), (20, .d (.int .i64 nx.length)), (21, .d (.int .i64 k))]
            [(6, .box [.d (.int .i64 0), .d (.int .i64 0), .d .nils, .d .nils]), (7, .box [.d (.int .i64 s), .d (.int .i64 o), .own 300, .own 301]), (300, .rows 43 2 1 (rws (nx.take k) ++ [(row nx k).map (.int .i64)]) none), (301, .rows 43 2 1 (rws (ou.take k) ++ [(row ou k).map (.int .i64)]) none)] ?_ ?_
          . repeat (first | refine zc ?_ | refine zv ?_)
            refine m_fork ?_ ?_
            . repeat (first | refine zc ?_ | refine zv ?_)
              refine m_fork ?_ ?_
              . repeat (first | refine zc ?_ | refine zv ?_)
                exact ⟨by exact zs, perm_of_sort rfl⟩
              . repeat (first | refine zc ?_ | refine zv ?_)
                exact ⟨by exact zs, perm_of_sort rfl⟩
            . repeat (first | refine zc ?_ | refine zv ?_)
              exact ⟨by exact zs, perm_of_sort rfl⟩
          . rw [x1, x2, <- t1, <- t2]
            repeat (first | refine zc ?_ | refine zv ?_)
            refine loop_n (k + 1) (by omega) ?_ rfl (by omega)
            exact zs
    . have hk' : k = nx.length := by omega
      subst hk'
      have q1 : ou.take nx.length = ou := List.take_of_length_le (by omega)
      rw [q1, List.take_length]
      repeat (first | refine zc ?_ | refine zv ?_)
      (refine zb ?_; refine u_rH [(300, 30000), (301, 30001)] ?_ ?_)
      . rfl
      . rfl
end Go.Proofs.YtfemhnmggobhjaaGreat
namespace Go.Proofs.YtfemhnmggobhjaaGreat
open Go
attribute [local irreducible] awp awpL awpQL awpQ awpM pWalk Qt AC thenQ blockQ loopQ OpTo
set_option linter.unusedVariables false
set_option linter.unusedSimpArgs false
set_option maxHeartbeats 2000000
attribute [local irreducible] HC
end Go.Proofs.YtfemhnmggobhjaaGreat
namespace Go.Proofs.YtfemhnmggobhjaaGreat
open Go
attribute [local irreducible] awp awpL awpQL awpQ awpM pWalk Qt AC thenQ blockQ loopQ OpTo
set_option linter.unusedVariables false
set_option linter.unusedSimpArgs false
set_option maxHeartbeats 2000000
attribute [local irreducible] HC
theorem impl_changeH {xs : List D} {j : Nat} {i x : Int} (hx : xs[j]? = some (.int .i64 x)) (hi : -1000 <= i /\ i <= 1000) :
    HC Tryz.prog 128 [.elt 10000 j, .d (.int .i64 i)] [(10000, .arr 2 1 xs)] (.d (.tup [])) [(10000, .arr 2 1 (xs.set j (.int .i64 (othr i x))))] := by
  have hj : j < xs.length := by
    rcases Nat.lt_or_ge j xs.length with h | h
    . exact h
    . simp [h] at hx
  unfold othr
  by_cases h : x <= i
  . rw [if_pos h]
    refine hc_intro tabIs _ Tryz.func128 rfl rfl Tryz.ntmps128 rfl rfl rfl ?_ fun w0 ok0 XM XA anc he0 hX0 => ?_
    . exact likeIn_cons rfl ⟨rfl, rfl, by simp⟩ likeIn_nil
    repeat (first | refine zc ?_ | ((first | apply x_l | apply x_q | apply x_lr | apply x_qr); (focus (first | (apply wa_nilElt; (iterate 2 (focus (first | exact rfl | (first | assumption | omega | (simp; omega) | (simp; done) | rfl))))))); exact rfl) | (apply v_x; (iterate 2 exact rfl); (focus (intro ok0 nw hle; (first | (apply wa_nilElt; (iterate 2 (focus (first | exact rfl | (first | assumption | omega | (simp; omega) | (simp; done) | rfl)))))))); (iterate 2 exact rfl)) | refine zv ?_)
    (refine u_eH [(10000, 10000)] ?_ ?_)
    . rfl
    . rfl
  . rw [if_neg h]
    refine hc_intro tabIs _ Tryz.func128 rfl rfl Tryz.ntmps128 rfl rfl rfl ?_ fun w0 ok0 XM XA anc he0 hX0 => ?_
    . exact likeIn_cons rfl ⟨rfl, rfl, by simp⟩ likeIn_nil
    repeat (first | refine zc ?_ | ((first | apply x_l | apply x_q | apply x_lr | apply x_qr); (focus (first | (apply wa_nilElt; (iterate 2 (focus (first | exact rfl | (first | assumption | omega | (simp; omega) | (simp; done) | rfl))))))); exact rfl) | (apply v_x; (iterate 2 exact rfl); (focus (intro ok0 nw hle; (first | (apply wa_nilElt; (iterate 2 (focus (first | exact rfl | (first | assumption | omega | (simp; omega) | (simp; done) | rfl)))))))); (iterate 2 exact rfl)) | refine zv ?_)
    (refine u_eH [(10000, 10000)] ?_ ?_)
    . rfl
    . rfl
theorem impl_mutantH {s o k : Int} {nx ou : List (List Int)} (m : MV s o nx ou) (hk : 0 <= k /\ k < mutN s o nx.length) :
    HC Tryz.prog 85 [.d (mach s o nx ou), .d (.int .i64 k)] [] (.agg [.d (.int .i64 s), .d (.int .i64 o), .own 30000, .own 30001])
      [(30000, .rows 43 2 1 (rws (mutX s o nx ou k).1) none), (30001, .rows 43 2 1 (rws (mutX s o nx ou k).2) none)] := by
  have hi := mut_idx m.s1 m.o1 m.n1.2 hk
  have hs1 := m.s1
  have ho1 := m.o1
  have hn1 := m.n1
  have heq := m.eq
  have he := hi.e0
  have hk2 := hi.k0
  have hii := hi.i0
  have hd := hi.d0
  have hq := hi.q0
  have hl := hi.l0
  have e1 := impl_forget (s := s) (o := o) (nx := nx) (ou := ou)
  have e2 := impl_all (s := s) (nx := nx) (by omega)
  have c1 := impl_pickedH m
  have hX : mutX s o nx ou k = if k % (o - 1 + s - 1) < o - 1 then (nx, set2 ou (k / (o - 1 + s - 1) / s) (k / (o - 1 + s - 1) % s) (othr (k % (o - 1 + s - 1)) (at2 ou (k / (o - 1 + s - 1) / s) (k / (o - 1 + s - 1) % s))))
    else (set2 nx (k / (o - 1 + s - 1) / s) (k / (o - 1 + s - 1) % s) (othr (k % (o - 1 + s - 1) - (o - 1)) (at2 nx (k / (o - 1 + s - 1) / s) (k / (o - 1 + s - 1) % s))), ou) := rfl
  generalize mutX s o nx ou k = R at *
  generalize hE : o - 1 + s - 1 = e at *
  generalize hI : k % e = i at *
  generalize hD : k / e = d at *
  generalize hQ : d % s = q at *
  generalize hL : d / s = l at *
  have rnx := rws_length nx
  have rou := rws_length ou
  have hlo : 0 <= l /\ l < ou.length := by rw [heq]; exact hl
  have tn := rws_row (xs := nx) hl
  have to := rws_row (xs := ou) hlo
  have rl1 : ((row nx l).length : Int) = s := tbl_row m.nx hl
  have rl2 : ((row ou l).length : Int) = s := tbl_row m.ou hlo
  have g3 := el_int2 (ns := row nx l) (q := q) (by omega)
  have g4 := el_int2 (ns := row ou l) (q := q) (by omega)
  have ml1 : (List.map (D.int .i64) (row nx l)).length = (row nx l).length := by simp
  have ml2 : (List.map (D.int .i64) (row ou l)).length = (row ou l).length := by simp
  have w1 := rws_set2 (xs := nx) (l := l) (q := q) (v := othr (i - (o - 1)) (at2 nx l q)) hl
  have w2 := rws_set2 (xs := ou) (l := l) (q := q) (v := othr i (at2 ou l q)) hlo
  refine hc_intro tabIs _ Tryz.func85 rfl rfl Tryz.ntmps85 rfl rfl rfl ?_ fun w0 ok0 XM XA anc he0 hX0 => ?_
  . exact likeIn_nil
  repeat (first | refine zcn ?_ | refine zv ?_)
  refine u_mJ [(4, [500, 501]), (5, [5]), (6, [5])] (.tk [500, 501, 5] [0, 1, 2, 3] (.fork 4 5 (.tk [] [5, 6] .done) (.tk [] [4, 6] .done)))
    [(1, .d (.int .i64 k)), (2, .d (.ptr (mach s o nx ou))), (4, .ref 4 0), (5, .ref 5 0)]
    [(4, .box [.d (.int .i64 0), .d (.int .i64 0), .d .nils, .d .nils]), (5, .box [.d (.int .i64 s), .d (.int .i64 o), .own 500, .own 501]), (500, .rows 43 2 1 (rws nx) none), (501, .rows 43 2 1 (rws ou) none)] ?_ ?_
  . repeat (first | refine zc ?_ | refine zk (e := by exact e1) (n := ?_) | refine zk (e := by exact e2) (n := ?_) | refine zv ?_)
    refine m_fork ?_ ?_
    . refine hclM [] [(30000, 500), (30001, 501)] c1 ?_
      repeat (first | refine zc ?_ | refine zv ?_)
      exact ⟨by exact zs, perm_of_sort rfl⟩
    . repeat (first | refine zc ?_ | refine zv ?_)
      refine hclM [] [(30000, 500), (30001, 501)] c1 ?_
      repeat (first | refine zc ?_ | refine zv ?_)
      exact ⟨by exact zs, perm_of_sort rfl⟩
  . repeat (first | refine zcn ?_ | refine zv ?_)
    rw [hE]
    repeat (first | refine zc ?_ | refine zv ?_)
    (try rw [hD])
    (try rw [hQ])
    (try rw [hL])
    (try rw [hI])
    by_cases hlt : i < o - 1
    . rw [if_pos hlt] at hX
      have e3 := impl_changeH (xs := (row ou l).map (.int .i64)) (j := q.toNat) (i := i) g4 (by omega)
      rw [hX]
      refine u_t ?_
      refine awp_carve0 501 l.toNat 300 rfl to rfl rfl rfl ?_
      repeat (first | refine zc ?_ | ((first | apply x_l | apply x_q | apply x_lr | apply x_qr); (focus (first | (apply wa_loadHole; (iterate 5 (focus (first | exact rfl | (first | assumption | omega | (simp; omega) | (simp; done) | rfl))))))); exact rfl) | (apply v_x; (iterate 2 exact rfl); (focus (intro ok0 nw hle; (first | (apply wa_loadHole; (iterate 5 (focus (first | exact rfl | (first | assumption | omega | (simp; omega) | (simp; done) | rfl)))))))); (iterate 2 exact rfl)) | refine zv ?_)
      refine hcl [(300, 10000)] [(10000, 300)] e3 ?_
      repeat (first | refine zc ?_ | refine zv ?_)
      refine awp_back 501 300 (by exact rfl) (by exact rfl) (by exact rfl) (by exact rfl) (by exact rfl) (by exact rfl) to (by simp) ?_
      (refine zb ?_; refine u_rH [(500, 30000), (501, 30001)] ?_ ?_)
      . rfl
      . rw [<- w2]; rfl
    . rw [if_neg hlt] at hX
      have e3 := impl_changeH (xs := (row nx l).map (.int .i64)) (j := q.toNat) (i := i - (o - 1)) g3 (by omega)
      rw [hX]
      refine u_f ?_
      refine awp_carve0 500 l.toNat 300 rfl tn rfl rfl rfl ?_
      refine u_m [(13, [300])] (.tk [] [0, 1, 2, 3, 4, 5, 6, 7, 8, 9, 10, 11, 12, 13] .done) ?_
      repeat (first | refine zc ?_ | ((first | apply x_l | apply x_q | apply x_lr | apply x_qr); (focus (first | (apply wa_loadHole; (iterate 5 (focus (first | exact rfl | (first | assumption | omega | (simp; omega) | (simp; done) | rfl))))))); exact rfl) | (apply v_x; (iterate 2 exact rfl); (focus (intro ok0 nw hle; (first | (apply wa_loadHole; (iterate 5 (focus (first | exact rfl | (first | assumption | omega | (simp; omega) | (simp; done) | rfl)))))))); (iterate 2 exact rfl)) | refine zv ?_)
      refine hclM [(300, 10000)] [(10000, 300)] e3 ?_
      repeat (first | refine zc ?_ | refine zv ?_)
      refine awp_back 500 300 (by exact rfl) (by exact rfl) (by exact rfl) (by exact rfl) (by exact rfl) (by exact rfl) tn (by simp) ?_
      (refine zb ?_; refine u_rH [(500, 30000), (501, 30001)] ?_ ?_)
      . rfl
      . rw [<- w1]; rfl
end Go.Proofs.YtfemhnmggobhjaaGreat
namespace Go.Proofs.YtfemhnmggobhjaaGreat
open Go
attribute [local irreducible] awp awpL awpQL awpQ awpM pWalk Qt AC thenQ blockQ loopQ OpTo
set_option linter.unusedVariables false
set_option linter.unusedSimpArgs false
set_option maxHeartbeats 2000000
attribute [local irreducible] HC
theorem inB_iff {n lo hi : Int} : inB n lo hi = true ↔ lo <= n /\ n <= hi := by simp [inB]
theorem impl_code {s o : Int} {nx ou : List (List Int)} {g : Nat} {cap : List D} {b : Bool} (h1 : RowsOk nx) (h2 : RowsOk ou) (hg : machOk s o nx ou = true -> AC Tryz.prog g cap (.bool b)) :
    AC Tryz.prog 49 [mach s o nx ou, .fn g cap] (.int .i64 (if machOk s o nx ou then (if b then 0 else 2) else 1)) := by
  have e1 := impl_ValidMachine (s := s) (o := o) h1 h2
  by_cases hv : machOk s o nx ou = true
  . have e2 := hg hv
    rw [hv] at e1 ⊢
    cases b with
    | true =>
      refine ac_intro tabIs _ Tryz.func49 rfl rfl Tryz.ntmps49 rfl rfl fun w0 ok0 he0 => ?_
      repeat (first | refine zc ?_ | refine zk (e := by exact e1) (n := ?_) | refine zk (e := by exact e2) (n := ?_) | refine zv ?_)
      refine zt ?_
      rfl
    | false =>
      refine ac_intro tabIs _ Tryz.func49 rfl rfl Tryz.ntmps49 rfl rfl fun w0 ok0 he0 => ?_
      repeat (first | refine zc ?_ | refine zk (e := by exact e1) (n := ?_) | refine zk (e := by exact e2) (n := ?_) | refine zv ?_)
      refine zt ?_
      rfl
  . have hv' : machOk s o nx ou = false := by simpa using hv
    rw [hv'] at e1 ⊢
    refine ac_intro tabIs _ Tryz.func49 rfl rfl Tryz.ntmps49 rfl rfl fun w0 ok0 he0 => ?_
    repeat (first | refine zc ?_ | refine zk (e := by exact e1) (n := ?_) | refine zv ?_)
    refine zt ?_
    rfl
end Go.Proofs.YtfemhnmggobhjaaGreat
