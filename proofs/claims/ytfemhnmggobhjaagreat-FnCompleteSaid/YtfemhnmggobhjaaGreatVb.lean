/- Rows of words sorted by the program: slices.SortFunc with compareWords. No condition but bounds. -/
import Derived.Test.YtfemhnmggobhjaaGreatVs
import Derived.Test.YtfemhnmggobhjaaGreatVa
import Derived.Test.YtfemhnmggobhjaaGreatFwX
import Derived.Test.YtfemhnmggobhjaaGreatRa
import Derived.Test.YtfemhnmggobhjaaGreatNh
import Derived.Test.YtfemhnmggobhjaaGreatFy
import Derived.Test.YtfemhnmggobhjaaGreatHa
namespace Go.Proofs.YtfemhnmggobhjaaGreat
open Go.Sort
open Go
attribute [local irreducible] awp awpL awpQL awpQ awpM pWalk Qt AC thenQ blockQ loopQ OpTo
set_option linter.unusedVariables false
set_option linter.unusedSimpArgs false
set_option maxHeartbeats 2000000
attribute [local irreducible] HC
structure WOk (p : D × List Int) : Prop where
  le : D.Le p.1 (ints p.2)
  one : p.1.one = true
  el : p.1.el = true
  width : p.1.width = 1
  len : p.2.length <= 1048576
def w0 : D × List Int := (.lst [], [])
theorem w0_ok : WOk w0 := ⟨D.Le.refl _, rfl, rfl, rfl, by decide⟩
def wat (xs : List (D × List Int)) (i : Nat) : D × List Int := xs.getD i w0
theorem wat_ok {xs : List (D × List Int)} (h : ∀ p ∈ xs, WOk p) (i : Nat) : WOk (wat xs i) := by
  unfold wat
  rw [List.getD_eq_getElem?_getD]
  cases e : xs[i]? with
  | none => exact w0_ok
  | some x => exact h x (List.mem_of_getElem? e)
def cfW (xs : List (D × List Int)) (i j : Nat) : Int := cmpW (wat xs i).2 (wat xs j).2
def srtW (xs : List (D × List Int)) : List (D × List Int) := (sIx (cfW xs) xs.length).map (wat xs)
theorem cmpW_ntrans {a b c : List Int} (h1 : ¬ cmpW a b < 0) (h2 : ¬ cmpW b c < 0) : ¬ cmpW a c < 0 := by
  intro h3
  have e1 := cmpW_neg a b
  by_cases h4 : cmpW a b = 0
  . have := cmpW_eq.1 h4
    subst this
    exact h2 h3
  . exact h2 (cmpW_trans (show cmpW b a < 0 by omega) h3)
theorem swoW (xs : List (D × List Int)) : SWO (ltOf (cfW xs)) where
  irrefl i := by
    have : cfW xs i i = 0 := cmpW_eq.2 rfl
    simp [ltOf, this]
  trans i j k h1 h2 := by
    simp only [ltOf, decide_eq_true_eq] at *
    exact cmpW_trans h1 h2
  ntrans i j k h1 h2 := decide_eq_false (cmpW_ntrans (of_decide_eq_false h1) (of_decide_eq_false h2))
theorem srtW_perm (xs : List (D × List Int)) : (srtW xs).Perm xs := by
  have h := ((sIx_sorts (swoW xs) xs.length).1).map (wat xs)
  have e : (List.range xs.length).map (wat xs) = xs := by
    apply List.ext_getElem?
    intro i
    rw [List.getElem?_map]
    by_cases hi : i < xs.length
    . rw [List.getElem?_range hi, List.getElem?_eq_getElem hi]
      simp [wat, List.getD_eq_getElem?_getD, hi]
    . rw [List.getElem?_eq_none (by simpa using Nat.le_of_not_lt hi), List.getElem?_eq_none (by omega)]
      rfl
  rw [e] at h
  exact h
theorem srtW_sorted (xs : List (D × List Int)) : (srtW xs).Pairwise fun p q => ¬ cmpW q.2 p.2 < 0 := by
  unfold srtW
  rw [List.pairwise_map]
  exact (sIx_sorts (swoW xs) xs.length).2
theorem impl_SortFuncH {xs : List (D × List Int)} (hok : ∀ p ∈ xs, WOk p) (hn : xs.length <= 1048576) :
    HC Tryz.prog 132 [.own 10000, .d (.fn 133 [])] [(10000, .arr 43 1 (xs.map (·.1)))] (.d (.tup [])) [(10000, .arr 43 1 ((srtW xs).map (·.1)))] := by
  have hg : ∀ i, (xs.map (·.1)).getD i (.lst []) = (wat xs i).1 := by
    intro i
    unfold wat
    rw [List.getD_eq_getElem?_getD, List.getD_eq_getElem?_getD, List.getElem?_map]
    cases xs[i]? <;> rfl
  have h := hc_sortFunc (e := 43) (xs := xs.map (·.1)) (cf := cfW xs) (g := 133) sortRows (swoW xs) (fun x hx => by
    obtain ⟨p, hp, rfl⟩ := List.mem_map.1 hx
    exact (hok p hp).one) (by simp; omega) (fun i j => by
    rw [hg, hg]
    have ki := wat_ok hok i
    have kj := wat_ok hok j
    have h1 := ki.len
    have h2 := kj.len
    refine (impl_compareWords (a := (wat xs i).2) (b := (wat xs j).2) (by omega) (by omega)).le rfl ?_
    intro q x y hx hy
    match q, hx, hy with
    | 0, hx, hy =>
      simp at hx hy
      subst hx hy
      exact ki.le
    | 1, hx, hy =>
      simp at hx hy
      subst hx hy
      exact kj.le
    | q + 2, hx, hy => simp at hx)
  have e : ((sIx (cfW xs) (xs.map (·.1)).length).map fun i => (xs.map (·.1)).getD i (.lst [])) = (srtW xs).map (·.1) := by
    unfold srtW
    rw [List.map_map, List.length_map]
    exact List.map_congr_left fun i _ => hg i
  rw [e] at h
  exact h
end Go.Proofs.YtfemhnmggobhjaaGreat
namespace Go.Proofs.YtfemhnmggobhjaaGreat
open Go
attribute [local irreducible] awp awpL awpQL awpQ awpM pWalk Qt AC thenQ blockQ loopQ OpTo
set_option linter.unusedVariables false
set_option linter.unusedSimpArgs false
set_option maxHeartbeats 2000000
attribute [local irreducible] HC
def eqP (p q : D × List Int) : Bool := decide (p.2 = q.2)
theorem eqP_call {p q : D × List Int} (hp : WOk p) (hq : WOk q) : AC Tryz.prog 105 [p.1, q.1] (.bool (decide (p.2 = q.2))) := by
  have h1 := hp.len
  have h2 := hq.len
  refine (slices_EqualI (a := p.2) (b := q.2) (by omega) (by omega)).le rfl ?_
  intro i x y hx hy
  match i, hx, hy with
  | 0, hx, hy =>
    simp at hx hy
    subst hx hy
    exact hp.le
  | 1, hx, hy =>
    simp at hx hy
    subst hx hy
    exact hq.le
  | i + 2, hx, hy => simp at hx
theorem impl_CompactFuncH {xs : List (D × List Int)} (hok : ∀ p ∈ xs, WOk p) (hn : xs.length <= 1048576) :
    HC Tryz.prog 134 [.own 20000, .d (.fn 105 [])] [(20000, .arr 43 1 (xs.map (·.1)))] (.own 20000) [(20000, .arr 43 1 ((ddF eqP xs).map (·.1)))] := by
  have hle : (List.map (fun p : D × List Int => p.1) xs).length = xs.length := by simp
  by_cases h2 : xs.length < 2
  . have e : ddF eqP xs = xs := ddF_none fun j h0 hj => by omega
    rw [e]
    refine hc_intro tabIs _ Tryz.func134 rfl rfl Tryz.ntmps134 rfl rfl rfl ?_ fun w0 ok0 XM XA anc he0 hX0 => ?_
    . exact likeIn_cons rfl ⟨rfl, rfl, rfl⟩ likeIn_nil
    repeat (first | refine zc ?_ | refine zv ?_)
    (refine zb ?_; refine u_rH [(20000, 20000)] ?_ ?_)
    . rfl
    . rfl
  . refine hc_intro tabIs _ Tryz.func134 rfl rfl Tryz.ntmps134 rfl rfl rfl ?_ fun w0 ok0 XM XA anc he0 hX0 => ?_
    . exact fun p hp ha => by simp at hp; subst hp; cases ha
    repeat (first | refine zc ?_ | refine zv ?_)
    refine awp_loop (fun k : Nat => 1 <= k /\ k <= xs.length /\ ∀ j, 0 < j -> (hj : j < k) -> (hj2 : j < xs.length) -> eqP xs[j] (xs[j - 1]'(by omega)) = false) (fun k => [(0, .own 20000), (1, .d (.fn 105 [])), (5, .d (.int .i64 k))])
      (fun k => [(20000, .arr 43 1 (xs.map (·.1)))]) (fun k => xs.length - k) 1 ⟨Nat.le_refl _, by omega, fun j h0 h1 => by omega⟩ ?_ rfl ?_
    . exact zs
    . rintro k ⟨hk1, hk2, hno⟩
      by_cases hlt : k < xs.length
      . have x1 : (xs.map (·.1))[(k : Int).toNat]? = some xs[k].1 := by simp [hlt]
        have x2 : (xs.map (·.1))[((k : Int) - 1).toNat]? = some (xs[k - 1]'(by omega)).1 := by
          rw [show ((k : Int) - 1).toNat = k - 1 by omega]
          simp [show k - 1 < xs.length by omega]
        have ee := eqP_call (hok _ (List.getElem_mem hlt)) (hok _ (List.getElem_mem (show k - 1 < xs.length by omega)))
        have o1 := (hok _ (List.getElem_mem hlt)).one
        have o2 := (hok _ (List.getElem_mem (show k - 1 < xs.length by omega))).one
        by_cases hc : xs[k].2 = xs[k - 1].2
        . obtain ⟨f1, f2⟩ := cmpR_first (eq := eqP) (by omega) hlt (fun j h0 hj => hno j h0 hj (by omega)) (by simp [eqP, hc])
          rw [decide_eq_true hc] at ee
          repeat (first | refine zc ?_ | ((first | apply x_l | apply x_q | apply x_lr | apply x_qr); (focus (first | (apply wa_loadElt; (iterate 6 (focus (first | exact rfl | (first | assumption | omega | (simp; omega) | (simp; done) | rfl))))) | (apply wv_view; (iterate 9 (focus (first | exact rfl | (first | assumption | omega | (simp; omega) | (simp; done) | rfl))))))); exact rfl) | refine zk (e := by exact ee) (n := ?_) | (apply v_x; (iterate 2 exact rfl); (focus (intro ok0 nw hle; (first | (apply wa_loadElt; (iterate 6 (focus (first | exact rfl | (first | assumption | omega | (simp; omega) | (simp; done) | rfl))))) | (apply wv_view; (iterate 9 (focus (first | exact rfl | (first | assumption | omega | (simp; omega) | (simp; done) | rfl)))))))); (iterate 2 exact rfl)) | refine zv ?_)
          refine awp_loop (fun q : Nat => 1 <= q /\ k + q <= xs.length /\ (ddF eqP (xs.take (k + q))).length < k + q) (fun q => [(0, .own 20000), (1, .d (.fn 105 [])), (5, .d (.int .i64 (ddF eqP (xs.take (k + q))).length)), (6, .sub 20000 (2 * (k : Int).toNat)), (7, .d (.int .i64 q))])
            (fun q => [(20000, .arr 43 1 ((cmpR eqP xs (k + q)).map (·.1)))]) (fun q => xs.length - q) 1 ⟨Nat.le_refl _, by omega, by omega⟩ ?_ ?_ ?_
          . refine ⟨rfl, rfl, ?_, rfl, rfl, trivial⟩
            rw [f1]
            rfl
          . rw [f2]
          . rintro q ⟨hq1, hq2, hq3⟩
            have hcl := cmpR_len (eq := eqP) (xs := xs) (m := k + q)
            have hlm : ((cmpR eqP xs (k + q)).map (·.1)).length = xs.length := by simp [hcl]
            have hdl := (ddT_len (eq := eqP) (xs := xs) (m := k + q)).2
            by_cases hlq : k + q < xs.length
            . have y1 : ((cmpR eqP xs (k + q)).map (·.1))[(k : Int).toNat + (q : Int).toNat]? = some xs[k + q].1 := by
                rw [List.getElem?_map, show (k : Int).toNat + (q : Int).toNat = k + q by omega, cmpR_get (by omega), List.getElem?_eq_getElem hlq]
                rfl
              have y2 : ((cmpR eqP xs (k + q)).map (·.1))[(k : Int).toNat + ((q : Int) - 1).toNat]? = some (xs[k + q - 1]'(by omega)).1 := by
                rw [List.getElem?_map, show (k : Int).toNat + ((q : Int) - 1).toNat = k + q - 1 by omega, cmpR_get (by omega), List.getElem?_eq_getElem (by omega)]
                rfl
              have ef := eqP_call (hok _ (List.getElem_mem hlq)) (hok _ (List.getElem_mem (show k + q - 1 < xs.length by omega)))
              have o3 := (hok _ (List.getElem_mem hlq)).one
              have o4 := (hok _ (List.getElem_mem (show k + q - 1 < xs.length by omega))).one
              by_cases hd : xs[k + q].2 = xs[k + q - 1].2
              . obtain ⟨g1, g2⟩ := cmpR_same (eq := eqP) (m := k + q) (by omega) hlq (by simp [eqP, hd])
                rw [decide_eq_true hd] at ef
                generalize xs[k + q] = va at *
                generalize xs[k + q - 1] = vb at *
                repeat (first | refine zc ?_ | ((first | apply x_l | apply x_q | apply x_lr | apply x_qr); (focus (first | (apply wa_loadElt; (iterate 6 (focus (first | exact rfl | (first | assumption | omega | (simp; omega) | (simp; done) | rfl))))) | (apply wv_index; (iterate 9 (focus (first | exact rfl | (first | assumption | omega | (simp; omega) | (simp; done) | rfl))))) | (apply wv_len; (iterate 4 (focus (first | exact rfl | (first | assumption | omega | (simp; omega) | (simp; done) | rfl))))))); exact rfl) | refine zk (e := by exact ef) (n := ?_) | (apply v_x; (iterate 2 exact rfl); (focus (intro ok0 nw hle; (first | (apply wa_loadElt; (iterate 6 (focus (first | exact rfl | (first | assumption | omega | (simp; omega) | (simp; done) | rfl))))) | (apply wv_index; (iterate 9 (focus (first | exact rfl | (first | assumption | omega | (simp; omega) | (simp; done) | rfl))))) | (apply wv_len; (iterate 4 (focus (first | exact rfl | (first | assumption | omega | (simp; omega) | (simp; done) | rfl)))))))); (iterate 2 exact rfl)) | refine zv ?_)
                refine loop_n (q + 1) ⟨by omega, by omega, ?_⟩ ?_ ?_ (by omega)
                . rw [show k + (q + 1) = k + q + 1 by omega, g1]; omega
                . refine ⟨rfl, rfl, ?_, rfl, rfl, trivial⟩
                  rw [show k + (q + 1) = k + q + 1 by omega, g1]
                  rfl
                . rw [show k + (q + 1) = k + q + 1 by omega, g2]
              . obtain ⟨g1, g2⟩ := cmpR_new (eq := eqP) (m := k + q) (by omega) hlq (by simp [eqP, hd])
                have d1 := (hok _ (List.getElem_mem hlq)).el
                have d2 := (hok _ (List.getElem_mem hlq)).width
                rw [decide_eq_false hd] at ef
                generalize hva : xs[k + q] = va at *
                generalize xs[k + q - 1] = vb at *
                repeat (first | refine zc ?_ | ((first | apply x_l | apply x_q | apply x_lr | apply x_qr); (focus (first | (apply wa_loadElt; (iterate 6 (focus (first | exact rfl | (first | assumption | omega | (simp; omega) | (simp; done) | rfl))))) | (apply wv_index; (iterate 9 (focus (first | exact rfl | (first | assumption | omega | (simp; omega) | (simp; done) | rfl))))) | (apply wv_len; (iterate 4 (focus (first | exact rfl | (first | assumption | omega | (simp; omega) | (simp; done) | rfl))))))); exact rfl) | refine zk (e := by exact ef) (n := ?_) | (apply v_x; (iterate 2 exact rfl); (focus (intro ok0 nw hle; (first | (apply wa_loadElt; (iterate 6 (focus (first | exact rfl | (first | assumption | omega | (simp; omega) | (simp; done) | rfl))))) | (apply wv_index; (iterate 9 (focus (first | exact rfl | (first | assumption | omega | (simp; omega) | (simp; done) | rfl))))) | (apply wv_len; (iterate 4 (focus (first | exact rfl | (first | assumption | omega | (simp; omega) | (simp; done) | rfl)))))))); (iterate 2 exact rfl)) | refine zv ?_)
                refine awpL_to rfl (by apply wo_storeElt; (iterate 4 exact rfl); exact d1; exact d2; exact rfl; (simp only [Int.toNat_natCast]; omega)) ?_
                repeat (first | refine zc ?_ | refine zv ?_)
                refine loop_n (q + 1) ⟨by omega, by omega, ?_⟩ ?_ ?_ (by omega)
                . rw [show k + (q + 1) = k + q + 1 by omega, g1]; omega
                . refine ⟨rfl, rfl, ?_, rfl, rfl, trivial⟩
                  rw [show k + (q + 1) = k + q + 1 by omega, g1]
                  simp [lk]
                . rw [show k + (q + 1) = k + q + 1 by omega, <- g2]
                  simp [setH]
            . have hm : k + q = xs.length := by omega
              have hce := cmpR_end (eq := eqP) (xs := xs)
              rw [hm] at hdl hcl hlm hq3 ⊢
              rw [List.take_length] at hdl hq3 ⊢
              generalize hP : ddF eqP xs = P at *
              generalize cmpR eqP xs xs.length = R at *
              have hR : R.take P.length = P := hce
              repeat (first | refine zc ?_ | ((first | apply x_l | apply x_q | apply x_lr | apply x_qr); (focus (first | (apply wv_len; (iterate 4 (focus (first | exact rfl | (first | assumption | omega | (simp; omega) | (simp; done) | rfl))))))); exact rfl) | (apply v_x; (iterate 2 exact rfl); (focus (intro ok0 nw hle; (first | (apply wv_len; (iterate 4 (focus (first | exact rfl | (first | assumption | omega | (simp; omega) | (simp; done) | rfl)))))))); (iterate 2 exact rfl)) | refine zv ?_)
              refine awpL_clear ?_ rfl rfl rfl rfl rfl rfl rfl rfl rfl rfl rfl rfl rfl (by omega) (by omega)
              repeat (first | refine zc ?_ | refine zv ?_)
              (apply lto; (focus (apply wo_cut; (iterate 8 exact rfl); omega; (simp [setH, hlm]; omega))))
              repeat (first | refine zc ?_ | refine zv ?_)
              (refine zb ?_; refine u_rH [(20000, 20000)] ?_ ?_)
              . rfl
              . have hfin : List.take ((P.length : Nat) : Int).toNat (List.take ((P.length : Nat) : Int).toNat (List.map (·.1) R) ++ List.replicate ((List.map (·.1) R).length - ((P.length : Nat) : Int).toNat) D.nils) = P.map (·.1) := by
                  rw [Int.toNat_natCast, <- List.map_take, hR, List.take_left' (by simp)]
                exact congrArg (fun l => some [(20000, Chunk.arr 43 1 l)]) hfin
        . rw [decide_eq_false hc] at ee
          repeat (first | refine zc ?_ | ((first | apply x_l | apply x_q | apply x_lr | apply x_qr); (focus (first | (apply wa_loadElt; (iterate 6 (focus (first | exact rfl | (first | assumption | omega | (simp; omega) | (simp; done) | rfl))))))); exact rfl) | refine zk (e := by exact ee) (n := ?_) | (apply v_x; (iterate 2 exact rfl); (focus (intro ok0 nw hle; (first | (apply wa_loadElt; (iterate 6 (focus (first | exact rfl | (first | assumption | omega | (simp; omega) | (simp; done) | rfl)))))))); (iterate 2 exact rfl)) | refine zv ?_)
          refine loop_n (k + 1) ⟨by omega, by omega, fun j h0 h1 h2 => ?_⟩ ?_ rfl (by omega)
          . by_cases e : j = k
            . subst e
              simp [eqP, hc]
            . exact hno j h0 (by omega) h2
          . exact zs
      . have e : ddF eqP xs = xs := ddF_none fun j h0 hj => hno j h0 (by omega) hj
        rw [e]
        repeat (first | refine zc ?_ | refine zv ?_)
        (refine zb ?_; refine u_rH [(20000, 20000)] ?_ ?_)
        . rfl
        . rfl
end Go.Proofs.YtfemhnmggobhjaaGreat
namespace Go.Proofs.YtfemhnmggobhjaaGreat
open Go
attribute [local irreducible] awp awpL awpQL awpQ awpM pWalk Qt AC thenQ blockQ loopQ OpTo
set_option linter.unusedVariables false
set_option linter.unusedSimpArgs false
set_option maxHeartbeats 2000000
attribute [local irreducible] HC
theorem elsOk_by {size : Nat} : ∀ {ys : List D}, (∀ y ∈ ys, y.el = true /\ y.width = size) -> elsOk size ys = true
  | [], _ => rfl
  | y :: ys, h => by
    have h1 := h y (List.mem_cons_self ..)
    simp only [elsOk, h1.1, h1.2, Nat.beq_eq_true_eq, Bool.true_and, Bool.and_eq_true]
    exact ⟨Nat.beq_refl size, elsOk_by fun z hz => h z (List.mem_cons_of_mem _ hz)⟩
theorem elsOk_wds {xs : List (D × List Int)} (hok : ∀ p ∈ xs, WOk p) : elsOk 1 (xs.map (·.1)) = true := elsOk_by fun x hx => by
  obtain ⟨p, hp, rfl⟩ := List.mem_map.1 hx
  exact ⟨(hok p hp).el, (hok p hp).width⟩
theorem impl_CloneWH {xs : List (D × List Int)} (hok : ∀ p ∈ xs, WOk p) (hn : xs.length <= 1048576) : HC Tryz.prog 108 [.d (.lst (xs.map (·.1)))] [] (.own 30000) [(30000, .arr 43 1 (xs.map (·.1)))] := by
  have hel := elsOk_wds hok
  have hle : (List.map (fun p : D × List Int => p.1) xs).length = xs.length := by simp
  refine hc_intro tabIs _ Tryz.func108 rfl rfl Tryz.ntmps108 rfl rfl rfl ?_ fun w0 ok0 XM XA anc he0 hX0 => ?_
  . exact likeIn_nil
  repeat (first | refine zc ?_ | refine zv ?_)
  refine awpL_eqNil rfl rfl rfl rfl ?_
  intro b hb
  cases b
  . repeat (first | refine v_w (t := 5) ?_ | refine zc ?_ | refine u_w (t := 5) ?_ | refine zv ?_)
    (apply lto; (focus (apply wo_append; (iterate 14 exact rfl); exact elsOk_wds hok; (simp; omega))))
    repeat (first | refine zc ?_ | refine zv ?_)
    (refine zb ?_; refine u_rH [(5, 30000)] ?_ ?_)
    . rfl
    . rfl
  . have hn0 : xs = [] := List.map_eq_nil_iff.1 (hb rfl)
    subst hn0
    repeat (first | refine zc ?_ | refine zv ?_)
    refine awp_nilSlot 2 7777 43 1 rfl rfl rfl ?_
    (refine zb ?_; refine u_rH [(7777, 30000)] ?_ ?_)
    . rfl
    . rfl
def dstW (xs : List (D × List Int)) : List (D × List Int) := ddF eqP (srtW xs)
theorem impl_distinctH {xs : List (D × List Int)} (hok : ∀ p ∈ xs, WOk p) (hn : xs.length <= 1048576) : HC Tryz.prog 102 [.d (.lst (xs.map (·.1)))] [] (.own 30000) [(30000, .arr 43 1 ((dstW xs).map (·.1)))] := by
  have hp := srtW_perm xs
  have hok2 : ∀ p ∈ srtW xs, WOk p := fun p h => hok p (hp.mem_iff.1 h)
  have c1 := impl_CloneWH hok hn
  have c2 := impl_SortFuncH hok hn
  have c3 := impl_CompactFuncH hok2 (by rw [hp.length_eq]; omega)
  unfold dstW
  refine hc_intro tabIs _ Tryz.func102 rfl rfl Tryz.ntmps102 rfl rfl rfl ?_ fun w0 ok0 XM XA anc he0 hX0 => ?_
  . exact likeIn_nil
  repeat (first | refine zc ?_ | refine zv ?_)
  refine hcl [] [(30000, 500)] c1 ?_
  repeat (first | refine zc ?_ | refine zv ?_)
  refine hcl [(500, 10000)] [(10000, 500)] c2 ?_
  repeat (first | refine zc ?_ | refine zv ?_)
  refine hcl [(500, 20000)] [(20000, 500)] c3 ?_
  repeat (first | refine zc ?_ | refine zv ?_)
  (refine zb ?_; refine u_rH [(500, 30000)] ?_ ?_)
  . rfl
  . rfl
end Go.Proofs.YtfemhnmggobhjaaGreat
namespace Go.Proofs.YtfemhnmggobhjaaGreat
open Go
attribute [local irreducible] awp awpL awpQL awpQ awpM pWalk Qt AC thenQ blockQ loopQ OpTo
set_option linter.unusedVariables false
set_option linter.unusedSimpArgs false
set_option maxHeartbeats 2000000
attribute [local irreducible] HC
def ltW (a b : List Int) : Prop := cmpW a b < 0
theorem ltW_irrefl (a : List Int) : ¬ ltW a a := fun h => by
  have := cmpW_eq.2 (rfl : a = a)
  unfold ltW at h
  omega
theorem ltW_of {a b : List Int} (h : ¬ cmpW b a < 0) (hn : b ≠ a) : ltW a b := by
  unfold ltW
  have h1 := cmpW_neg a b
  by_cases h2 : cmpW a b = 0
  . exact absurd (cmpW_eq.1 h2).symm hn
  . omega
theorem ddP_sorted : ∀ (l out : List (D × List Int)) (x : D × List Int), (x :: l).Pairwise (fun p q => ¬ cmpW q.2 p.2 < 0) -> out.Pairwise (fun p q => ltW p.2 q.2) -> (∀ y ∈ out, ¬ cmpW x.2 y.2 < 0) -> x.2 ∈ out.map (·.2) ->
    (ddA eqP out x l).Pairwise (fun p q => ltW p.2 q.2) /\ ∀ z ∈ l, z.2 ∈ (ddA eqP out x l).map (·.2)
  | [], out, x, _, h2, _, _ => ⟨h2, fun z hz => by cases hz⟩
  | y :: l, out, x, h1, h2, h3, h4 => by
    have h1' := List.pairwise_cons.1 h1
    have hxy := h1'.1 y (List.mem_cons_self ..)
    unfold ddA
    by_cases e : y.2 = x.2
    . rw [if_pos (by simp [eqP, e])]
      obtain ⟨k1, k2⟩ := ddP_sorted l out y h1'.2 h2 (by rw [e]; exact h3) (by rw [e]; exact h4)
      refine ⟨k1, fun z hz => ?_⟩
      rcases List.mem_cons.1 hz with rfl | hz
      . rw [e]
        obtain ⟨p, hp, hp2⟩ := List.mem_map.1 h4
        exact List.mem_map.2 ⟨p, ddA_out l out z p hp, hp2⟩
      . exact k2 z hz
    . rw [if_neg (by simp [eqP, e])]
      have hlt := ltW_of hxy e
      have hq : ∀ q ∈ out, ltW q.2 y.2 := fun q hq => by
        have k := h3 q hq
        by_cases e2 : x.2 = q.2
        . rw [<- e2]; exact hlt
        . exact cmpW_trans (ltW_of k e2) hlt
      obtain ⟨k1, k2⟩ := ddP_sorted l (out ++ [y]) y h1'.2 (List.pairwise_append.2 ⟨h2, by simp, fun a ha b hb => by simp at hb; subst hb; exact hq a ha⟩)
        (fun q hq' => by
          rcases List.mem_append.1 hq' with hq' | hq'
          . have k := hq q hq'
            intro h5
            exact ltW_irrefl _ (cmpW_trans k h5)
          . simp at hq'
            subst hq'
            exact ltW_irrefl _) (by simp)
      refine ⟨k1, fun z hz => ?_⟩
      rcases List.mem_cons.1 hz with rfl | hz
      . exact List.mem_map.2 ⟨z, ddA_out l _ z z (by simp), rfl⟩
      . exact k2 z hz
theorem dstW_spec (xs : List (D × List Int)) : ((dstW xs).map (·.2)).Pairwise ltW /\ (∀ w, w ∈ (dstW xs).map (·.2) ↔ w ∈ xs.map (·.2)) /\ ∀ p ∈ dstW xs, p ∈ xs := by
  unfold dstW
  have h1 := srtW_sorted xs
  have h2 := srtW_perm xs
  have h3 : ∀ x, x ∈ srtW xs ↔ x ∈ xs := fun x => h2.mem_iff
  generalize srtW xs = r at *
  cases r with
  | nil =>
    have hx : xs = [] := List.eq_nil_iff_forall_not_mem.2 fun x hx => by have := (h3 x).2 hx; cases this
    subst hx
    exact ⟨List.Pairwise.nil, fun w => Iff.rfl, fun p hp => hp⟩
  | cons x r =>
    have hsub : ∀ p ∈ ddF eqP (x :: r), p ∈ xs := fun p hp => by
      rw [<- h3]
      rcases ddA_mem r [x] x p hp with hp | hp
      . simp at hp; subst hp; exact List.mem_cons_self ..
      . exact List.mem_cons_of_mem _ hp
    obtain ⟨k1, k2⟩ := ddP_sorted r [x] x h1 (by simp) (fun y hy => by simp at hy; subst hy; exact ltW_irrefl _) (by simp)
    refine ⟨List.pairwise_map.2 k1, fun w => ⟨fun hw => ?_, fun hw => ?_⟩, hsub⟩
    . obtain ⟨p, hp, rfl⟩ := List.mem_map.1 hw
      exact List.mem_map.2 ⟨p, hsub p hp, rfl⟩
    . obtain ⟨p, hp, rfl⟩ := List.mem_map.1 hw
      rw [<- h3] at hp
      rcases List.mem_cons.1 hp with rfl | hp
      . exact List.mem_map.2 ⟨p, ddA_out r [p] p p (by simp), rfl⟩
      . exact k2 p hp
theorem ltW_ext : ∀ {a b : List (List Int)}, a.Pairwise ltW -> b.Pairwise ltW -> (∀ x, x ∈ a ↔ x ∈ b) -> a = b
  | [], b, _, _, h => (List.eq_nil_iff_forall_not_mem.2 fun x hx => by have := (h x).2 hx; cases this).symm
  | x :: a, [], _, _, h => by have := (h x).1 (List.mem_cons_self ..); cases this
  | x :: a, y :: b, h1, h2, h => by
    have k1 := List.pairwise_cons.1 h1
    have k2 := List.pairwise_cons.1 h2
    have e : x = y := by
      rcases List.mem_cons.1 ((h x).1 (List.mem_cons_self ..)) with e | e
      . exact e
      . rcases List.mem_cons.1 ((h y).2 (List.mem_cons_self ..)) with e2 | e2
        . exact e2.symm
        . exact absurd (cmpW_trans (k1.1 y e2) (k2.1 x e)) (ltW_irrefl x)
    subst e
    rw [ltW_ext k1.2 k2.2 fun z => ⟨fun hz => ?_, fun hz => ?_⟩]
    . rcases List.mem_cons.1 ((h z).1 (List.mem_cons_of_mem _ hz)) with e | e
      . subst e; exact absurd (k1.1 z hz) (ltW_irrefl z)
      . exact e
    . rcases List.mem_cons.1 ((h z).2 (List.mem_cons_of_mem _ hz)) with e | e
      . subst e; exact absurd (k2.1 z hz) (ltW_irrefl z)
      . exact e
end Go.Proofs.YtfemhnmggobhjaaGreat
namespace Go.Proofs.YtfemhnmggobhjaaGreat
open Go
attribute [local irreducible] awp awpL awpQL awpQ awpM pWalk Qt AC thenQ blockQ loopQ OpTo
set_option linter.unusedVariables false
set_option linter.unusedSimpArgs false
set_option maxHeartbeats 2000000
attribute [local irreducible] HC
def prW (ws : List (List Int)) : List (D × List Int) := ws.map fun w => (ints w, w)
noncomputable def uniqW (ws : List (List Int)) : List (List Int) := (dstW (prW ws)).map (·.2)
theorem prW_snd (ws : List (List Int)) : (prW ws).map (·.2) = ws := by
  unfold prW
  rw [List.map_map]
  exact List.map_id ws
theorem uniqW_sorted (ws : List (List Int)) : (uniqW ws).Pairwise ltW := (dstW_spec _).1
theorem uniqW_mem {ws : List (List Int)} {w : List Int} : w ∈ uniqW ws ↔ w ∈ ws := by
  have := (dstW_spec (prW ws)).2.1 w
  rw [prW_snd] at this
  exact this
theorem uniqW_eq {ws L : List (List Int)} (h1 : L.Pairwise ltW) (h2 : ∀ w, w ∈ L ↔ w ∈ ws) : uniqW ws = L :=
  ltW_ext (uniqW_sorted ws) h1 fun w => uniqW_mem.trans (h2 w).symm
theorem uniqW_congr {a b : List (List Int)} (h : ∀ w, w ∈ a ↔ w ∈ b) : uniqW a = uniqW b :=
  uniqW_eq (uniqW_sorted b) fun w => uniqW_mem.trans (h w).symm
theorem dstW_words (xs : List (D × List Int)) : (dstW xs).map (·.2) = uniqW (xs.map (·.2)) :=
  (uniqW_eq (dstW_spec xs).1 (dstW_spec xs).2.1).symm
theorem nodup_ltW {L : List (List Int)} (h : L.Pairwise ltW) : L.Nodup := h.imp fun {a b} hab e => by subst e; exact ltW_irrefl _ hab
theorem nodup_sub_len : ∀ {a b : List (List Int)}, a.Nodup -> (∀ x ∈ a, x ∈ b) -> a.length <= b.length
  | [], _, _, _ => Nat.zero_le _
  | x :: a, b, h1, h2 => by
    have k := List.nodup_cons.1 h1
    have hx := h2 x (List.mem_cons_self ..)
    have ih := nodup_sub_len (a := a) (b := b.erase x) k.2 fun y hy => by
      have hne : y ≠ x := fun e => k.1 (e ▸ hy)
      exact (List.mem_erase_of_ne hne).2 (h2 y (List.mem_cons_of_mem _ hy))
    rw [List.length_erase_of_mem hx] at ih
    have := List.length_pos_of_mem hx
    simp only [List.length_cons]
    omega
theorem uniqW_len (ws : List (List Int)) : (uniqW ws).length <= ws.length := nodup_sub_len (nodup_ltW (uniqW_sorted ws)) fun _ h => uniqW_mem.1 h
theorem srt_lt {L : List (List Int)} (h : L.Pairwise ltW) {i j : Nat} {u v : List Int} (hu : L[i]? = some u) (hv : L[j]? = some v) (hij : i < j) : ltW u v := by
  have hj : j < L.length := by
    rcases Nat.lt_or_ge j L.length with h | h
    . exact h
    . simp [h] at hv
  have e1 : L[i]'(by omega) = u := by rw [List.getElem?_eq_getElem (by omega)] at hu; exact Option.some.inj hu
  have e2 : L[j] = v := by rw [List.getElem?_eq_getElem hj] at hv; exact Option.some.inj hv
  rw [<- e1, <- e2]
  exact List.pairwise_iff_getElem.1 h i j (by omega) hj hij
structure Cut (L : List (List Int)) (w : List Int) (p : Nat) : Prop where
  le : p <= L.length
  lo : ∀ (i : Nat) u, i < p -> L[i]? = some u -> ltW u w
  hi : ∀ (i : Nat) u, p <= i -> L[i]? = some u -> ¬ ltW u w
theorem cut_mem {L : List (List Int)} {w : List Int} {p : Nat} (hs : L.Pairwise ltW) (c : Cut L w p) : w ∈ L ↔ L[p]? = some w := by
  refine ⟨fun h => ?_, fun h => List.mem_of_getElem? h⟩
  obtain ⟨i, hi, e⟩ := List.getElem_of_mem h
  have hg : L[i]? = some w := by rw [List.getElem?_eq_getElem hi, e]
  rcases Nat.lt_trichotomy i p with h1 | h1 | h1
  . exact absurd (c.lo i w h1 hg) (ltW_irrefl w)
  . rw [<- h1]; exact hg
  . have hp : L[p]? = some (L[p]'(by omega)) := List.getElem?_eq_getElem (by omega)
    exact absurd (srt_lt hs hp hg h1) (c.hi p _ (Nat.le_refl _) hp)
theorem ltW_tot {u w : List Int} (h : ¬ ltW u w) (hn : u ≠ w) : ltW w u := ltW_of h hn
theorem cut_ins {L : List (List Int)} {w : List Int} {p : Nat} (hs : L.Pairwise ltW) (c : Cut L w p) (hn : L[p]? ≠ some w) : (L.take p ++ w :: L.drop p).Pairwise ltW := by
  have hnm : w ∉ L := fun h => hn ((cut_mem hs c).1 h)
  rw [List.pairwise_append]
  refine ⟨hs.sublist (List.take_sublist _ _), List.pairwise_cons.2 ⟨fun u hu => ?_, hs.sublist (List.drop_sublist _ _)⟩, fun a ha b hb => ?_⟩
  . obtain ⟨i, hi, e⟩ := List.getElem_of_mem hu
    have hg : L[p + i]? = some u := by rw [<- List.getElem?_drop, List.getElem?_eq_getElem hi, e]
    exact ltW_tot (c.hi _ u (by omega) hg) fun e => hnm (e ▸ List.mem_of_getElem? hg)
  . obtain ⟨i, hi, e⟩ := List.getElem_of_mem ha
    have hip : i < p := by simp at hi; omega
    have hg : L[i]? = some a := by
      have : (L.take p)[i]? = some a := by rw [List.getElem?_eq_getElem hi, e]
      rw [List.getElem?_take_of_lt hip] at this
      exact this
    have hlt := c.lo i a hip hg
    rcases List.mem_cons.1 hb with rfl | hb
    . exact hlt
    . obtain ⟨j, hj, e2⟩ := List.getElem_of_mem hb
      have hg2 : L[p + j]? = some b := by rw [<- List.getElem?_drop, List.getElem?_eq_getElem hj, e2]
      exact srt_lt hs hg hg2 (by omega)
theorem cut_uniq {L : List (List Int)} {w : List Int} {p : Nat} (hs : L.Pairwise ltW) (c : Cut L w p) : uniqW (L ++ [w]) = if L[p]? = some w then L else L.take p ++ w :: L.drop p := by
  split
  . rename_i h
    refine uniqW_eq hs fun x => ⟨fun h => by simp [h], fun hx => ?_⟩
    rcases List.mem_append.1 hx with hx | hx
    . exact hx
    . simp at hx; subst hx; exact List.mem_of_getElem? h
  . rename_i h
    refine uniqW_eq (cut_ins hs c h) fun x => ?_
    have : x ∈ L ↔ x ∈ L.take p \/ x ∈ L.drop p := by rw [<- List.mem_append, List.take_append_drop]
    rw [List.mem_append, List.mem_append, List.mem_cons, List.mem_singleton, this]
    constructor
    . rintro (h | h | h) <;> simp [h]
    . rintro ((h | h) | h) <;> simp [h]
def tws (e : Nat) (bs : List (Option Nat)) (ws : List (List Int)) : List (D × List Int) := List.zipWith (fun b w => (tagD e 1 b (w.map (.int .i64)), w)) bs ws
theorem tws_get {e : Nat} {bs : List (Option Nat)} {ws : List (List Int)} {p : D × List Int} {i : Nat} (h : (tws e bs ws)[i]? = some p) : ∃ b w, bs[i]? = some b /\ ws[i]? = some w /\ p = (tagD e 1 b (w.map (.int .i64)), w) := by
  unfold tws at h
  rw [List.getElem?_zipWith] at h
  cases hb : bs[i]? with
  | none => simp [hb] at h
  | some b =>
    cases hw : ws[i]? with
    | none => simp [hb, hw] at h
    | some w => simp [hb, hw] at h; exact ⟨b, w, rfl, rfl, h.symm⟩
theorem tws_fst {e : Nat} {bs : List (Option Nat)} {ws : List (List Int)} : (tws e bs ws).map (·.1) = tagL e 1 bs (rws ws) := by
  unfold tws tagL rws
  rw [List.map_zipWith, List.zipWith_map_right]
theorem tws_snd {e : Nat} {bs : List (Option Nat)} {ws : List (List Int)} (h : bs.length = ws.length) : (tws e bs ws).map (·.2) = ws := by
  apply List.ext_getElem?
  intro i
  rw [List.getElem?_map]
  by_cases hi : i < ws.length
  . simp [tws, List.getElem?_zipWith, List.getElem?_eq_getElem hi, List.getElem?_eq_getElem (show i < bs.length by omega)]
  . rw [List.getElem?_eq_none (by simp [tws]; omega), List.getElem?_eq_none (by omega)]
    rfl
theorem tws_ok {n e : Nat} {bs : List (Option Nat)} {ws : List (List Int)} (T : Tags n bs (rws ws)) (hl : ∀ w ∈ ws, w.length <= 1048576) : ∀ p ∈ tws e bs ws, WOk p := fun p hp => by
  obtain ⟨i, hi, e1⟩ := List.getElem_of_mem hp
  obtain ⟨b, w, hb, hw, rfl⟩ := tws_get (p := p) (i := i) (by rw [List.getElem?_eq_getElem hi, e1])
  refine ⟨tagD_le fun hn => tags_none T hw (by rw [hb, hn]), by cases b <;> rfl, by cases b <;> rfl, by cases b <;> rfl, hl w (List.mem_of_getElem? hw)⟩
theorem sub_tags {n e : Nat} {bs : List (Option Nat)} {ws : List (List Int)} (T : Tags n bs (rws ws)) : ∀ (l : List (D × List Int)), (∀ p ∈ l, p ∈ tws e bs ws) -> (l.map (·.2)).Nodup ->
    ∃ cs, l.map (·.1) = tagL e 1 cs (rws (l.map (·.2))) /\ Tags n cs (rws (l.map (·.2))) /\ ∀ (i : Nat) b, cs[i]? = some (some b) -> ∃ (k : Nat) (w : List Int), bs[k]? = some (some b) /\ ws[k]? = some w /\ (l.map (·.2))[i]? = some w
  | [], _, _ => ⟨[], rfl, ⟨rfl, by simp, by simp, by simp⟩, by simp⟩
  | p :: l, h1, h2 => by
    have hn := List.nodup_cons.1 (show (p.2 :: l.map (·.2)).Nodup from h2)
    obtain ⟨cs, k1, k2, k3⟩ := sub_tags T l (fun q hq => h1 q (List.mem_cons_of_mem _ hq)) hn.2
    obtain ⟨i, hi, e1⟩ := List.getElem_of_mem (h1 p (List.mem_cons_self ..))
    obtain ⟨b, w, hb, hw, rfl⟩ := tws_get (p := p) (i := i) (by rw [List.getElem?_eq_getElem hi, e1])
    refine ⟨b :: cs, ?_, ⟨by simp [k2.len, rws], fun c hc => ?_, fun x y c hx hy => ?_, fun x hx => ?_⟩, fun x c hx => ?_⟩
    . show _ :: _ = _
      rw [k1]
      rfl
    . rcases List.mem_cons.1 hc with hc | hc
      . exact T.new c (by rw [hc]; exact List.mem_of_getElem? hb)
      . exact k2.new c hc
    . match x, y, hx, hy with
      | 0, 0, _, _ => rfl
      | x + 1, y + 1, hx, hy => rw [k2.nd x y c (by simpa using hx) (by simpa using hy)]
      | 0, y + 1, hx, hy =>
        obtain ⟨k, v, q1, q2, q3⟩ := k3 y c (by simpa using hy)
        have hbc : b = some c := by simpa using hx
        have : i = k := T.nd i k c (by rw [hb, hbc]) q1
        subst this
        rw [hw] at q2
        cases q2
        exact absurd (List.mem_of_getElem? q3) hn.1
      | x + 1, 0, hx, hy =>
        obtain ⟨k, v, q1, q2, q3⟩ := k3 x c (by simpa using hx)
        have hbc : b = some c := by simpa using hy
        have : i = k := T.nd i k c (by rw [hb, hbc]) q1
        subst this
        rw [hw] at q2
        cases q2
        exact absurd (List.mem_of_getElem? q3) hn.1
    . match x, hx with
      | 0, hx =>
        have hbn : b = none := by simpa using hx
        have := tags_none T hw (by rw [hb, hbn])
        simp [rws, this]
      | x + 1, hx =>
        have := k2.emp x (by simpa using hx)
        simpa [rws] using this
    . match x, hx with
      | 0, hx =>
        have hbc : b = some c := by simpa using hx
        exact ⟨i, w, by rw [hb, hbc], hw, rfl⟩
      | x + 1, hx =>
        obtain ⟨k, v, q1, q2, q3⟩ := k3 x c (by simpa using hx)
        exact ⟨k, v, q1, q2, by simpa using q3⟩
end Go.Proofs.YtfemhnmggobhjaaGreat
