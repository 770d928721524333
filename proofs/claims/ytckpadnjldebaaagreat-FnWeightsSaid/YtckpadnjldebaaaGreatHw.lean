/- The law of weights. No condition. -/
import Derived.Test.YtckpadnjldebaaaGreatGm
import Derived.Test.YtckpadnjldebaaaGreatGr
import Derived.Test.YtckpadnjldebaaaGreatGp
import Derived.Test.YtckpadnjldebaaaGreatUa
namespace Go.Proofs.YtckpadnjldebaaaGreat
open Go
attribute [local irreducible] awp awpL awpQL awpQ awpM pWalk Qt AC thenQ blockQ loopQ OpTo
set_option linter.unusedVariables false
set_option linter.unusedSimpArgs false
set_option maxHeartbeats 2000000
attribute [local irreducible] HC HX
open Gw
section
variable {s : Int} {nx : List (List Int)} {lp : List Int}
theorem preL_mem {l : List Int} {x q : Int} : q ∈ preL s nx l [x] ↔ (0 <= q /\ q < s.toNat) /\ at2 nx x q ∈ l := by
  unfold preL
  rw [List.mem_filter, mk1_mem, decide_eq_true_eq]
  exact Iff.rfl
theorem preL_ris (l w : List Int) : (preL s nx l w).Pairwise (· < ·) := List.Pairwise.filter _ (mk1_pairwise _ _)
theorem preL_len (l w : List Int) : (preL s nx l w).length <= s.toNat := by
  have := List.length_filter_le (fun q => decide (runS nx q w ∈ l)) (mk1 0 s.toNat)
  rw [mk1_length] at this
  exact this
theorem wsL_avg (v : LV s nx lp) (hc : Cn s nx) {l : List Int} (hn : l.Nodup) (hr : ∀ x ∈ l, 0 <= x /\ x < s) : Gw.sm nx.length (fun x => wsL s nx (preL s nx l [(x : Int)])) = nx.length * wsL s nx l := by
  have hs := v.s1
  have e := ws_avg (con_of v hc) (w := wN s nx) (fun j hj => wN_bal v hc hj) fun i => decide ((i : Int) ∈ l)
  rw [<- wsL_sm hn fun x hx => by have := hr x hx; omega] at e
  rw [<- e]
  refine sm_congr fun x hx => ?_
  rw [wsL_sm (N := s.toNat) (ris_nd (preL_ris l [(x : Int)])) fun q hq => by have := (preL_mem.1 hq).1; omega]
  unfold ws
  refine sm_congr fun i hi => ?_
  have ht := tbl_at v.nx (l := (x : Int)) (q := (i : Int)) (by omega) (by omega)
  have hd : ((dl nx x i : Nat) : Int) = at2 nx x i := by unfold dl; omega
  have : (decide ((i : Int) ∈ preL s nx l [(x : Int)])) = decide (((dl nx x i : Nat) : Int) ∈ l) := by
    rw [hd]
    exact decide_eq_decide.2 ⟨fun h => (preL_mem.1 h).2, fun h => preL_mem.2 ⟨by omega, h⟩⟩
  show (if decide _ = true then _ else _) = (if decide _ = true then _ else _)
  rw [this]
theorem ws_all (v : LV s nx lp) (k : Nat) : ws k (wN s nx) (fun _ => true) = Gw.sm k (wN s nx) := sm_congr fun i _ => if_pos rfl
theorem sm_bd {f : Nat -> Int} {b : Int} (h : ∀ x : Nat, 0 <= f x /\ f x <= b) (hb : 0 <= b /\ b <= 590490) : ∀ k : Nat, k <= 3 -> 0 <= Gw.sm k f /\ Gw.sm k f <= 590490 * k
  | 0, _ => by simp [Gw.sm]
  | k + 1, hk => by
    have ih := sm_bd h hb k (by omega)
    have e : Gw.sm (k + 1) f = Gw.sm k f + f k := rfl
    have := h k
    rw [e]
    omega
theorem smw_bd (v : LV s nx lp) (hc : Cn s nx) (P : Nat -> Bool) : ∀ k : Nat, k <= s.toNat -> 0 <= ws k (wN s nx) P /\ ws k (wN s nx) P <= 59049 * k
  | 0, _ => by simp [ws, Gw.sm]
  | k + 1, hk => by
    have ih := smw_bd v hc P k (by omega)
    have hp := wN_pos v hc (i := k) (by omega)
    have e : ws (k + 1) (wN s nx) P = ws k (wN s nx) P + if P k then wN s nx k else 0 := rfl
    rw [e]
    split <;> omega
end
attribute [local irreducible] rkA lkL wnL wsL preL wN cnB knL
set_option maxRecDepth 100000 in
theorem law_FnWeights {code more : List Int} (hb : BytesOk code) (hm : BytesOk more) : AC Tryz.prog 4 [u8s code, u8s more] (.bool true) := by
  have eL := laws_a2Long (a := code) (b := more)
  by_cases hl : (decide (3000 < code.length) || decide (3000 < more.length)) = true
  . rw [hl] at eL
    refine ac_intro tabIs _ Tryz.func4 rfl rfl Tryz.ntmps4 rfl rfl fun w0 ok0 he0 => ?_
    repeat (first | refine zc ?_ | refine zk (e := by exact eL) (n := ?_) | refine zv ?_)
    refine zt ?_
    rfl
  . rw [Bool.not_eq_true] at hl
    rw [hl] at eL
    have cA := spec_A2AutomatonX hb
    refine ac_intro tabIs _ Tryz.func4 rfl rfl Tryz.ntmps4 rfl rfl fun w0 ok0 he0 => ?_
    repeat (first | refine zc ?_ | refine zk (e := by exact eL) (n := ?_) | refine zv ?_)
    refine hxl [] [] (4, []) cA (fun _ _ _ _ h => h) (fun i hi => ?_)
    obtain ⟨n, nx⟩ := i
    dsimp only at hi ⊢
    have hn := hi.n1
    have hln := hi.l1
    have v : LV n nx (List.replicate n.toNat 0) := ⟨by omega, hln, hi.t, by simp; omega⟩
    have hok := aok_auto hi (by omega)
    have hro := rowsOk_tblD hi.t (by omega) (by omega)
    have e1 := spec_WeightsOf v hok hro
    have e2 := impl_WeightsOf v hok hro
    cases hc : cnB n nx with
    | false =>
      rw [hc] at e1 e2
      repeat (first | refine zc ?_ | refine zk (e := by exact e1) (n := ?_) | refine zk (e := by exact e2) (n := ?_) | refine zv ?_)
      refine zt ?_
      rfl
    | true =>
      rw [hc] at e1 e2
      have hcn := cnB_iff.1 hc
      have hwl : (wnL n nx).length = n.toNat := by unfold wnL; simp
      have hwm : ((wnL n nx).map (D.int .i64)).length = n.toNat := by rw [List.length_map, hwl]
      have hwg : ∀ k : Nat, k < n.toNat -> ((wnL n nx).map (D.int .i64))[(k : Int).toNat]? = some (.int .i64 (wN n nx k)) := fun k hk => by
        rw [Int.toNat_natCast, List.getElem?_map]
        unfold wnL
        simp [hk]
      have hwp := fun (k : Nat) (hk : k < n.toNat) => wN_pos v hcn hk
      have eS := spec_A2Set (code := more) (s := n) (nx := nx) hm (by omega)
      obtain ⟨s1, s2, s3⟩ := stK_el (code := more) n.toNat
      have s1 : ∀ q ∈ (stK more n.toNat).1, 0 <= q /\ q < n := fun q hq => by have := s1 q hq; omega
      generalize (stK more n.toNat).1 = set at *
      have hrs := risB_of (l := set) (hi := n - 1) (fun q hq => by have := s1 q hq; omega) s2
      have eW := impl_WeightOfSet v hok hro hcn s1 (by omega) hrs
      have havg := wsL_avg v hcn (ris_nd s2) s1
      have hwb := wsL_le v hcn s1
      have eP : ∀ x : Int, 0 <= x /\ x < nx.length -> AC Tryz.prog 24 [.agg [.int .i64 n, rows nx], ints set, ints [x]] (.tup [ints (preL n nx set [x]), .int .i64 0]) := fun x hx => impl_PreimageOf v hok hro (by omega) hrs hx
      have hpr : ∀ x : Int, ∀ q ∈ preL n nx set [x], 0 <= q /\ q < n := fun x q hq => by have := ((preL_mem (s := n) (nx := nx)).1 hq).1; omega
      have ePW : ∀ x : Int, AC Tryz.prog 23 [.agg [.int .i64 n, rows nx], ints (preL n nx set [x])] (.tup [.int .i64 (wsL n nx (preL n nx set [x])), .int .i64 0]) := fun x => impl_WeightOfSet v hok hro hcn (hpr x) (by have := preL_len (s := n) (nx := nx) set [x]; omega) (risB_of (hi := n - 1) (fun q hq => by have := hpr x q hq; omega) (preL_ris set [x]))
      have hpb : ∀ x : Int, 0 <= wsL n nx (preL n nx set [x]) /\ wsL n nx (preL n nx set [x]) <= 590490 := fun x => by
        have h1 := wsL_le v hcn (hpr x)
        have h2 := preL_len (s := n) (nx := nx) set [x]
        omega
      have eK := impl_LeastKernels v (by omega) hok hro
      have hkl := lkL_len v (by omega)
      have hkne := lkL_ne v (by omega)
      have hkok := fun k hk => lkL_ok (k := k) v hk
      have eR := impl_RankOf v hok hro
      have hrk := rk_pos v
      have hkt := fun z hz hr c h => kn_total (z := z) (c := c) v hcn hz hr h
      have hbd := fun P k hk => smw_bd v hcn P k hk
      have hkll := fun z => knL_len (s := n) (nx := nx) z
      have hnm : (List.map ints nx).length = nx.length := by simp
      have h2c : ∀ c, wsL n nx set = c -> c = wsL n nx set := fun c h => h.symm
      generalize lkL n nx = K at *
      generalize rkA n nx = rk at *
      generalize wsL n nx set = hv at *
      have hsb := fun k hk => sm_bd (f := fun x : Nat => wsL n nx (preL n nx set [(x : Int)])) (b := 590490) (fun x => hpb x) (by omega) k hk
      have hss : ∀ k : Nat, Gw.sm (k + 1) (fun x : Nat => wsL n nx (preL n nx set [(x : Int)])) = Gw.sm k (fun x : Nat => wsL n nx (preL n nx set [(x : Int)])) + wsL n nx (preL n nx set [(k : Int)]) := fun k => rfl
      have hws : ∀ (k : Nat) (P : Nat -> Bool), ws (k + 1) (wN n nx) P = ws k (wN n nx) P + if P k then wN n nx k else 0 := fun k P => rfl
      have htot := ws_all v n.toNat
      generalize hWD : (wnL n nx).map (D.int .i64) = WD at *
      have hints : ints (wnL n nx) = .lst WD := by rw [<- hWD]; rfl
      rw [hints] at e1 e2
      generalize hSM : (fun x : Nat => wsL n nx (preL n nx set [(x : Int)])) = SM at *
      repeat (first | refine zc ?_ | refine zk (e := by exact e1) (n := ?_) | refine zk (e := by exact e2) (n := ?_) | refine zv ?_)
      refine awp_loop (fun k : Nat => k <= n.toNat) (fun k => [(1, .d (u8s more)), (5, .ref 5 0), (8, .d (.lst WD)), (10, .d (.int .i64 (ws k (wN n nx) fun _ => true))), (11, .d (.int .i64 k))]) (fun _ => [(5, .box [.d (.int .i64 n), .d (rows nx)])]) (fun k => n.toNat - k) 0 (by omega) ?_ rfl ?_
      . exact zs
      . intro k hk
        by_cases hkn : k < n.toNat
        . have g1 := hwg k hkn
          have p1 := hwp k hkn
          have b1 := hbd (fun _ => true) k (by omega)
          have st := hws k fun _ => true
          rw [if_pos rfl] at st
          generalize wN n nx k = y at *
          generalize ws k (wN n nx) (fun _ => true) = T0 at *
          repeat (first | refine zc ?_ | refine zv ?_)
          refine loop_n (k + 1) (by omega) ?_ rfl (by omega)
          rw [st]
          exact zs
        . have hke : k = n.toNat := by omega
          subst hke
          have tb := hbd (fun _ => true) n.toNat (by omega)
          rw [htot] at tb ⊢
          generalize htt : Gw.sm n.toNat (wN n nx) = tot at *
          repeat (first | refine zc ?_ | refine zk (e := by exact eS) (n := ?_) | refine zk (e := by exact eW) (n := ?_) | refine zv ?_)
          refine awp_loop (fun x : Nat => x <= nx.length) (fun x => [(1, .d (u8s more)), (5, .ref 5 0), (8, .d (.lst WD)), (10, .d (.int .i64 tot)), (12, .d (ints set)), (13, .d (.int .i64 hv)), (14, .d (.int .i64 0)), (15, .d (.int .i64 (Gw.sm x SM))), (16, .d (.int .i64 x))]) (fun _ => [(5, .box [.d (.int .i64 n), .d (rows nx)])]) (fun x => nx.length - x) 0 (by omega) ?_ rfl ?_
          . exact zs
          . intro x hx
            by_cases hxl : x < nx.length
            . have q1 := eP x (by omega)
              have q2 := ePW x
              have b1 := hsb x (by omega)
              have b2 := hpb x
              have st := hss x
              generalize wsL n nx (preL n nx set [(x : Int)]) = y at *
              generalize preL n nx set [(x : Int)] = pl at *
              generalize Gw.sm x SM = T0 at *
              repeat (first | refine zc ?_ | refine zk (e := by exact q1) (n := ?_) | refine zk (e := by exact q2) (n := ?_) | refine zv ?_ | refine zg ?_)
              refine loop_n (x + 1) (by omega) ?_ rfl (by omega)
              rw [st]
              exact zs
            . have hxe : x = nx.length := by omega
              subst hxe
              have b1 := hsb nx.length (by omega)
              rw [havg, Int.mul_comm, <- hnm] at b1 ⊢
              have hKm : (K.map ints).length = K.length := by simp
              have hK0 := List.length_pos_iff.2 hkne
              have eX := laws_a2At (b := more) (n := ((K.map ints).length : Nat)) hm (by omega)
              have hat := atV_range (b := more) (n := ((K.map ints).length : Nat)) (by omega)
              generalize atV more ((K.map ints).length : Nat) = at_ at *
              have hal : at_.toNat < K.length := by omega
              have hkg : (K.map ints)[at_.toNat]? = some (ints K[at_.toNat]) := by simp [hal]
              obtain ⟨z, hz, hzk, hzr⟩ := hkok _ (List.getElem_mem hal)
              have hkt := hkt z hz hzr
              have hkL := hkll z
              rw [<- hzk] at hkt hkL
              generalize K[at_.toNat] = kern at *
              repeat (first | refine zc ?_ | refine zk (e := by exact eK) (n := ?_) | refine zk (e := by exact eR) (n := ?_) | refine zk (e := by exact eX) (n := ?_) | refine zv ?_ | refine zg ?_)
              refine awp_loop (fun c : Nat => (c : Int) <= rk) (fun c => [(8, .d (.lst WD)), (10, .d (.int .i64 tot)), (23, .d (.int .i64 rk)), (25, .d (ints kern)), (26, .d (.int .i64 c))]) (fun _ => [(5, .box [.d (.int .i64 n), .d (rows nx)])]) (fun c => rk.toNat - c) 0 (by omega) ?_ rfl ?_
              . exact zs
              . intro c hcr
                by_cases hcl : (c : Int) < rk
                . have hprod := hkt c hcl
                  have hbc := hbd (fun j => decide (kern.getD j 0 = (c : Int)))
                  have hwc := fun k => hws k (fun j => decide (kern.getD j 0 = (c : Int)))
                  generalize hPF : (fun j => decide (kern.getD j 0 = (c : Int))) = PF at *
                  have hPF2 : ∀ j, PF j = decide (kern.getD j 0 = (c : Int)) := fun j => by rw [<- hPF]
                  repeat (first | refine zc ?_ | refine zv ?_)
                  refine awp_loop (fun j : Nat => j <= n.toNat) (fun j => [(8, .d (.lst WD)), (10, .d (.int .i64 tot)), (23, .d (.int .i64 rk)), (25, .d (ints kern)), (26, .d (.int .i64 c)), (27, .d (.int .i64 (ws j (wN n nx) PF))), (28, .d (.int .i64 j))]) (fun _ => [(5, .box [.d (.int .i64 n), .d (rows nx)])]) (fun j => n.toNat - j) 0 (by omega) ?_ rfl ?_
                  . exact zs
                  . intro j hj
                    have hkm : (List.map (D.int .i64) kern).length = n.toNat := by simp [hkL]
                    by_cases hjn : j < n.toNat
                    . have g1 := hwg j hjn
                      have p1 := hwp j hjn
                      have g2 := el_int2 (ns := kern) (q := (j : Int)) (by omega)
                      rw [Int.toNat_natCast] at g2
                      have b1 := hbc j (by omega)
                      have st := hwc j
                      have hPj := hPF2 j
                      have g2' : (List.map (D.int .i64) kern)[(j : Int).toNat]? = some (.int .i64 (kern.getD j 0)) := by rw [Int.toNat_natCast]; exact g2
                      clear g2
                      generalize wN n nx j = y at *
                      generalize ws j (wN n nx) PF = T0 at *
                      generalize kern.getD j 0 = d at *
                      by_cases hd : d = (c : Int)
                      . rw [decide_eq_true hd, if_pos rfl] at st
                        repeat (first | refine zc ?_ | refine zv ?_ | refine zg ?_)
                        refine loop_n (j + 1) (by omega) ?_ rfl (by omega)
                        rw [st]
                        exact zs
                      . rw [decide_eq_false hd, if_neg (by simp), Int.add_zero] at st
                        repeat (first | refine zc ?_ | refine zv ?_ | refine zg ?_)
                        refine loop_n (j + 1) (by omega) ?_ rfl (by omega)
                        rw [st]
                        exact zs
                    . have hje : j = n.toNat := by omega
                      subst hje
                      have b1 := hbc n.toNat (Nat.le_refl _)
                      generalize ws n.toNat (wN n nx) PF = part at *
                      repeat (first | refine zc ?_ | refine zv ?_ | refine zg ?_)
                      refine loop_n (c + 1) (by omega) ?_ rfl (by omega)
                      exact zs
                . have hce : (c : Int) = rk := by omega
                  repeat (first | refine zc ?_ | refine zv ?_)
                  refine zt ?_
                  rfl
end Go.Proofs.YtckpadnjldebaaaGreat
