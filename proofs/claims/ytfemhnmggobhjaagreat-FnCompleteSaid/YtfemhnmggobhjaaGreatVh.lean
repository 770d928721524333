/- The program's transitions, TransitionCover. No condition. -/
import Derived.Test.YtfemhnmggobhjaaGreatVb
import Derived.Test.YtfemhnmggobhjaaGreatIe
import Derived.Test.YtfemhnmggobhjaaGreatFwY
namespace Go.Proofs.YtfemhnmggobhjaaGreat
open Go
attribute [local irreducible] awp awpL awpQL awpQ awpM pWalk Qt AC thenQ blockQ loopQ OpTo
set_option linter.unusedVariables false
set_option linter.unusedSimpArgs false
set_option maxHeartbeats 2000000
attribute [local irreducible] HC HX
def crsW (C U : List (List Int)) : List (List Int) := C.flatMap fun w => U.map fun x => w ++ x
theorem crsW_next {C U : List (List Int)} {i : Nat} (h : i < C.length) : crsW (C.take (i + 1)) U = crsW (C.take i) U ++ U.map fun x => C[i] ++ x := by
  unfold crsW
  rw [List.take_succ_eq_append_getElem h, List.flatMap_append]
  simp
theorem crsW_len (C U : List (List Int)) : (crsW C U).length = C.length * U.length := by
  induction C with
  | nil => simp [crsW]
  | cons w C ih =>
    have : crsW (w :: C) U = (U.map fun x => w ++ x) ++ crsW C U := by simp [crsW]
    rw [this, List.length_append, ih, List.length_map, List.length_cons, Nat.succ_mul, Nat.add_comm]
def trU (n : Nat) : List (List Int) := upN n (gN n 2)
def trP (n : Nat) (C : List (List Int)) : List (List Int) := crsW C (trU n)
theorem cvR_len {s o : Int} {nx ou : List (List Int)} (m : MV s o nx ou) : (cvR (covL nx) s.toNat).length = s.toNat /\ ∀ w ∈ cvR (covL nx) s.toNat, w.length <= 10 /\ ∀ l ∈ w, 0 <= l /\ l < (nx.length : Int) := by
  have hs := m.s1
  have hok : COk s nx.length (covL nx) := lstC_ok m 10
  have hl := hok.len hs
  refine ⟨by simp [cvR], fun w hw => ?_⟩
  obtain ⟨q, -, rfl⟩ := List.mem_map.1 hw
  by_cases hq : q ∈ (covL nx).map (·.1)
  . obtain ⟨p, hp, rfl⟩ := List.mem_map.1 hq
    obtain ⟨j, hj, ej⟩ := List.getElem_of_mem hp
    have hLj : (covL nx)[j]? = some p := by rw [List.getElem?_eq_getElem hj, ej]
    rw [cvW_at hok.nd hLj]
    have := hok.wl p hp
    exact ⟨by omega, hok.el p hp⟩
  . rw [cvW_none hq]
    exact ⟨by simp, fun l h => absurd h (by simp)⟩
theorem trU_len {n : Nat} : (trU n).length = 1 + n := by simp [trU, gN]
theorem trU_wl {n : Nat} (hn : 1 <= n) : ∀ x ∈ trU n, x.length <= 1 /\ ∀ l ∈ x, 0 <= l /\ l < (n : Int) := fun x hx => by
  obtain ⟨i, hi, rfl⟩ := List.mem_map.1 hx
  have := (wN_lt hn 2 i).2 (List.mem_range.1 hi)
  exact ⟨by omega, wN_el hn i⟩
theorem impl_transitions {s o : Int} {nx ou : List (List Int)} (m : MV s o nx ou) :
    HC Tryz.prog 52 [.d (mach s o nx ou)] [] (.tup [.own 30000, .d (.bool (!decide (((covL nx).length : Int) < s)))]) [(30000, .rows 43 2 1 (rws (uniqW (trP nx.length (cvR (covL nx) s.toNat)))) none)] := by
  have hs := m.s1
  have hn := m.n1
  have e1 : AC Tryz.prog 64 [mach s o nx ou] (.tup [.lst ((rws (cvR (covL nx) s.toNat)).map D.lst), .bool (!decide (((covL nx).length : Int) < s))]) := ac_of_hc (impl_cover m) rfl
  rw [rws_dat] at e1
  have e2 : AC Tryz.prog 54 [mach s o nx ou, .int .i64 1] (.lst ((rws (trU nx.length)).map D.lst)) := ac_of_hc (impl_upTo (s := s) (o := o) (nx := nx) (ou := ou) (m := 1) hn (by omega)) rfl
  rw [rws_dat] at e2
  obtain ⟨hC, hCw⟩ := cvR_len m
  have hU := trU_len (n := nx.length)
  have hUw := trU_wl hn.1
  unfold trP
  generalize (!decide (((covL nx).length : Int) < s)) = okb at *
  generalize cvR (covL nx) s.toNat = C at *
  generalize trU nx.length = U at *
  have hCm : (List.map ints C).length = C.length := by simp
  have hUm : (List.map ints U).length = U.length := by simp
  have hPl := crsW_len C U
  have hPt : ∀ i, i <= C.length -> (crsW (C.take i) U).length = i * U.length := fun i hi => by rw [crsW_len, List.length_take, Nat.min_eq_left hi]
  have hCb : C.length <= 10 := by omega
  have hUb : U.length <= 4 := by omega
  have hPw : ∀ w ∈ crsW C U, w.length <= 1048576 := fun w hw => by
    simp only [crsW, List.mem_flatMap, List.mem_map] at hw
    obtain ⟨u, hu, x, hx, rfl⟩ := hw
    have := (hCw u hu).1
    have := (hUw x hx).1
    rw [List.length_append]; omega
  unfold mach at *
  refine hc_intro tabIs _ Tryz.func52 rfl rfl Tryz.ntmps52 rfl rfl rfl ?_ fun w0 ok0 XM XA anc he0 hX0 => ?_
  . exact likeIn_nil
  repeat (first | refine v_w (t := 16) ?_ | refine zc ?_ | refine u_w (t := 16) ?_ | refine zk (e := by exact e1) (n := ?_) | refine zv ?_)
  refine awp_loop (fun q : Nat × List (Option Nat) => q.1 <= C.length /\ Tags w0.heap.size q.2 (rws (crsW (C.take q.1) U))) (fun q => [(1, .d (.ptr (.agg [.int .i64 s, .int .i64 o, rows nx, rows ou]))), (5, .d (.bool okb)), (6, .own 16), (17, .d (rows C)), (18, .d (.int .i64 (List.map ints C).length)), (19, .d (.int .i64 q.1))])
    (fun q => [(16, .arr 43 1 (tagL 2 1 q.2 (rws (crsW (C.take q.1) U))))]) (fun q => C.length - q.1) (0, []) ⟨Nat.zero_le _, ⟨rfl, by simp, by simp, by simp⟩⟩ ?_ rfl ?_
  . exact zs
  . rintro ⟨i, bs⟩ ⟨hi, T⟩
    dsimp only at hi T ⊢
    by_cases hlt : i < C.length
    . have hx := el_row hlt
      have hcw := (hCw _ (List.getElem_mem hlt)).1
      have hst := crsW_next (U := U) hlt
      have hpi := hPt i hi
      have hiu : i * U.length <= 10 * 4 := Nat.mul_le_mul (by omega) hUb
      generalize C[i] = w at *
      generalize crsW (C.take i) U = P at *
      repeat (first | refine zc ?_ | refine zk (e := by exact e2) (n := ?_) | refine zv ?_)
      refine awp_loop (fun q : Nat × List (Option Nat) => q.1 <= U.length /\ Tags w0.heap.size q.2 (rws (P ++ (U.take q.1).map fun x => w ++ x))) (fun q => [(1, .d (.ptr (.agg [.int .i64 s, .int .i64 o, rows nx, rows ou]))), (5, .d (.bool okb)), (6, .own 16), (8, .d (ints w)), (17, .d (rows C)), (18, .d (.int .i64 (List.map ints C).length)), (19, .d (.int .i64 i)), (24, .d (rows U)), (25, .d (.int .i64 (List.map ints U).length)), (26, .d (.int .i64 q.1))])
        (fun q => [(16, .arr 43 1 (tagL 2 1 q.2 (rws (P ++ (U.take q.1).map fun x => w ++ x))))]) (fun q => U.length - q.1) (0, bs) ⟨Nat.zero_le _, by simpa using T⟩ ?_ ?_ ?_
      . exact zs
      . simp only [List.take_zero, List.map_nil, List.append_nil]
      . rintro ⟨j, cs⟩ ⟨hj, T2⟩
        dsimp only at hj T2 ⊢
        by_cases hjl : j < U.length
        . have hy := el_row hjl
          have huw := (hUw _ (List.getElem_mem hjl)).1
          have hst2 : P ++ (U.take (j + 1)).map (fun x => w ++ x) = (P ++ (U.take j).map fun x => w ++ x) ++ [w ++ U[j]] := by rw [List.take_succ_eq_append_getElem hjl, List.map_append, List.append_assoc]; rfl
          have hlen2 : (tagL 2 1 cs (rws (P ++ (U.take j).map fun x => w ++ x))).length = i * U.length + j := by
            rw [tagL_length T2.len, rws_length, List.length_append, List.length_map, List.length_take, hpi, Nat.min_eq_left hj]
          generalize U[j] = x at *
          have eJ := impl_joinWords (ps := [w, x]) (by simp) (by simp; omega)
          rw [show [w, x].flatten = w ++ x by simp] at eJ
          generalize w ++ x = v at *
          generalize (P ++ (U.take j).map fun x => w ++ x) = P2 at *
          repeat (first | refine zc ?_ | refine zv ?_)
          refine hcl [] [(30000, 500)] eJ ?_
          refine awpL_tagPush 500 16 T2 rfl rfl rfl fun ob T3 => ?_
          have helo : elsOk 1 [tagD 2 1 ob (v.map (D.int .i64))] = true := elsOk_tag
          repeat (first | refine zc ?_ | ((first | apply x_l | apply x_q | apply x_lr | apply x_qr); (focus (first | (apply wa_lit; (iterate 10 (focus (first | exact rfl | (first | assumption | omega | (simp; omega) | (simp; done) | rfl))))))); exact rfl) | (apply v_x; (iterate 2 exact rfl); (focus (intro ok0 nw hle; (first | (apply wa_lit; (iterate 10 (focus (first | exact rfl | (first | assumption | omega | (simp; omega) | (simp; done) | rfl)))))))); (iterate 2 exact rfl)) | refine zv ?_)
          refine awpL_to rfl (by apply wo_append; (iterate 14 exact rfl); exact elsOk_tag; (simp only [hlen2, List.length_singleton]; omega)) ?_
          repeat (first | refine zc ?_ | refine zv ?_)
          refine loop_n (j + 1, cs ++ [ob]) ⟨by show j + 1 <= _; omega, by rw [hst2, rws_snoc]; exact T3⟩ ?_ ?_ (by show _ - (j + 1) < _ - j; omega)
          . exact zs
          . show [_] = _
            rw [hst2, rws_snoc, tagL_snoc T2.len]
            rfl
        . have hje : j = U.length := by omega
          subst hje
          rw [List.take_length] at T2
          rw [List.take_length]
          repeat (first | refine zc ?_ | refine zv ?_)
          refine loop_n (i + 1, cs) ⟨by show i + 1 <= _; omega, by rw [hst]; exact T2⟩ ?_ ?_ (by show _ - (i + 1) < _ - i; omega)
          . exact zs
          . show [_] = _
            rw [hst]
    . have hie : i = C.length := by omega
      subst hie
      rw [List.take_length] at T
      rw [List.take_length]
      generalize crsW C U = P at *
      have hPn : P.length <= 1048576 := by have : C.length * U.length <= 10 * 4 := Nat.mul_le_mul hCb hUb; omega
      have hbl : bs.length = P.length := by rw [T.len, rws_length]
      have e5 := impl_distinctH (tws_ok (e := 2) T hPw) (by unfold tws; simp; omega)
      obtain ⟨cs, k1, k2, -⟩ := sub_tags (e := 2) T (dstW (tws 2 bs P)) (dstW_spec _).2.2 (nodup_ltW (dstW_spec _).1)
      rw [k1, tws_fst] at e5
      rw [dstW_words, tws_snd hbl] at k2 e5
      generalize uniqW P = W at *
      repeat (first | refine zcr ?_ | refine zv ?_)
      refine awp_freeze 16 rfl rfl ?_
      repeat (first | refine zc ?_ | refine zv ?_)
      refine hcl [] [(30000, 501)] e5 ?_
      repeat (first | refine zc ?_ | refine zv ?_)
      refine awp_thawRows 2 501 rfl rfl k2 rfl (rws_clo _) rfl ?_
      (refine zb ?_; refine u_rH [(501, 30000)] ?_ ?_)
      . rfl
      . rfl
end Go.Proofs.YtfemhnmggobhjaaGreat
namespace Go.Proofs.YtfemhnmggobhjaaGreat
open Go
attribute [local irreducible] awp awpL awpQL awpQ awpM pWalk Qt AC thenQ blockQ loopQ OpTo
set_option linter.unusedVariables false
set_option linter.unusedSimpArgs false
set_option maxHeartbeats 2000000
attribute [local irreducible] HC
structure LessI (a b : List Int) (k : Nat) : Prop where
  h : cmpL (a.drop k) (b.drop k) = cmpL a b
theorem LessI.ne {a b : List Int} {k : Nat} (i : LessI a b k) (h1 : k < a.length) (h2 : k < b.length) (h : a[k] ≠ b[k]) : (cmpL a b < 0) = (a[k] < b[k]) := by
  rw [<- i.h, List.drop_eq_getElem_cons h1, List.drop_eq_getElem_cons h2, cmpL_cons, if_neg (fun e => h (cmpI_eq.1 e))]
  exact propext cmpI_lt
theorem LessI.eq {a b : List Int} {k : Nat} (i : LessI a b k) (h1 : k < a.length) (h2 : k < b.length) (h : a[k] = b[k]) : LessI a b (k + 1) := ⟨by
  rw [<- i.h, List.drop_eq_getElem_cons h1, List.drop_eq_getElem_cons h2, cmpL_cons, if_pos (cmpI_eq.2 h)]⟩
theorem spec_l07Less {a b : List Int} (hba : a.length <= 1048576) (hbb : b.length <= 1048576) : AC Tryz.prog 99 [ints a, ints b] (.bool (decide (cmpW a b < 0))) := by
  have hla : (List.map (D.int IntKind.i64) a).length = a.length := by simp
  have hlb : (List.map (D.int IntKind.i64) b).length = b.length := by simp
  unfold cmpW
  by_cases hl : a.length = b.length
  . rw [if_pos (by rw [hl]; exact cmpI_eq.2 rfl)]
    refine ac_intro tabIs _ Tryz.func99 rfl rfl Tryz.ntmps99 rfl rfl fun w0 ok0 he0 => ?_
    repeat (first | refine zc ?_ | refine zv ?_)
    refine awp_loop (fun k : Nat => k <= a.length /\ LessI a b k) (fun k => [(0, .d (ints a)), (1, .d (ints b)), (5, .d (.int .i64 k))]) (fun _ => []) (fun k => a.length - k) 0 ⟨by omega, ⟨rfl⟩⟩ ?_ rfl ?_
    . exact zs
    . rintro k ⟨hk, ht⟩
      by_cases hlt : k < a.length
      . have hlt2 : k < b.length := by omega
        have ea := el_int hlt
        have eb := el_int hlt2
        have d1 := ht.ne hlt hlt2
        have d2 := ht.eq hlt hlt2
        generalize a[k] = x at *
        generalize b[k] = y at *
        by_cases he : x = y
        . have d2 := d2 he
          repeat (first | refine zc ?_ | refine zv ?_)
          refine loop_n (k + 1) ⟨by omega, d2⟩ ?_ rfl (by omega)
          exact zs
        . repeat (first | refine zc ?_ | refine zv ?_)
          refine zt ?_
          simp only [d1 he]
      . have hke : k = a.length := by omega
        subst hke
        have ht := ht.h
        rw [List.drop_length, hl, List.drop_length] at ht
        rw [<- ht]
        clear ht
        repeat (first | refine zc ?_ | refine zv ?_)
        refine zt ?_
        rfl
  . have hne : ¬ cmpI a.length b.length = 0 := fun e => hl (by have := cmpI_eq.1 e; omega)
    rw [if_neg hne]
    have hd : decide (cmpI a.length b.length < 0) = decide ((a.length : Int) < b.length) := by
      by_cases h : (a.length : Int) < b.length
      . rw [decide_eq_true h, decide_eq_true (cmpI_lt.2 h)]
      . rw [decide_eq_false h, decide_eq_false (fun e => h (cmpI_lt.1 e))]
    rw [hd]
    refine ac_intro tabIs _ Tryz.func99 rfl rfl Tryz.ntmps99 rfl rfl fun w0 ok0 he0 => ?_
    repeat (first | refine zc ?_ | refine zv ?_)
    refine zt ?_
    rw [hla, hlb]
theorem l00OwnA {ns : List Int} (hn : ns.length <= 1048576) : AC Tryz.prog 45 [ints ns] (ints ns) := ac_of_hc (spec_l00OwnH hn) rfl
theorem elsOk_intsL (L : List (List Int)) : elsOk 1 (L.map ints) = true := elsOk_by fun y hy => by
  obtain ⟨w, -, rfl⟩ := List.mem_map.1 hy
  exact ⟨rfl, rfl⟩
theorem elsOk_takeL (L : List (List Int)) (n : Nat) : elsOk 1 ((L.map ints).take n) = true := by rw [<- List.map_take]; exact elsOk_intsL _
theorem elsOk_dropL (L : List (List Int)) (n : Nat) : elsOk 1 ((L.map ints).drop n) = true := by rw [<- List.map_drop]; exact elsOk_intsL _
theorem cut_mid {L : List (List Int)} {w : List Int} {lo hi mid : Nat} (hs : L.Pairwise ltW) (hm : mid < L.length) (h1 : ∀ (i : Nat) u, i < lo -> L[i]? = some u -> ltW u w) (h2 : ∀ (i : Nat) u, hi <= i -> L[i]? = some u -> ¬ ltW u w) :
    (ltW L[mid] w -> ∀ (i : Nat) u, i < mid + 1 -> L[i]? = some u -> ltW u w) /\ (¬ ltW L[mid] w -> ∀ (i : Nat) u, mid <= i -> L[i]? = some u -> ¬ ltW u w) := by
  have hg : L[mid]? = some L[mid] := List.getElem?_eq_getElem hm
  refine ⟨fun h i u hi hu => ?_, fun h i u hi hu hlt => ?_⟩
  . rcases Nat.lt_or_ge i mid with k | k
    . exact cmpW_trans (srt_lt hs hu hg k) h
    . have : i = mid := by omega
      subst this
      rw [hg] at hu; cases hu; exact h
  . rcases Nat.lt_or_ge mid i with k | k
    . exact h (cmpW_trans (srt_lt hs hg hu k) hlt)
    . have : i = mid := by omega
      subst this
      rw [hg] at hu; cases hu; exact h hlt
theorem spec_l07Into {L : List (List Int)} {w : List Int} (hs : L.Pairwise ltW) (hL : L.length <= 1048576) (hLw : ∀ u ∈ L, u.length <= 1048576) (hw : w.length <= 1048576) : AC Tryz.prog 46 [rows L, ints w] (rows (uniqW (L ++ [w]))) := by
  have hle : (List.map ints L).length = L.length := by simp
  refine ac_intro tabIs _ Tryz.func46 rfl rfl Tryz.ntmps46 rfl rfl fun w0 ok0 he0 => ?_
  repeat (first | refine zc ?_ | refine zv ?_)
  refine awp_loop (fun q : Nat × Nat => q.1 <= q.2 /\ q.2 <= L.length /\ (∀ (i : Nat) u, i < q.1 -> L[i]? = some u -> ltW u w) /\ ∀ (i : Nat) u, q.2 <= i -> L[i]? = some u -> ¬ ltW u w) (fun q => [(0, .d (rows L)), (1, .d (ints w)), (5, .d (.int .i64 q.1)), (6, .d (.int .i64 q.2))]) (fun _ => []) (fun q => q.2 - q.1) (0, L.length)
    ⟨Nat.zero_le _, Nat.le_refl _, fun i u h => by omega, fun i u h hu => by rw [List.getElem?_eq_none h] at hu; cases hu⟩ ?_ rfl ?_
  . refine ⟨rfl, rfl, rfl, congrArg (fun n : Nat => SV.d (.int .i64 n)) hle, trivial⟩
  . rintro ⟨lo, hi⟩ ⟨h1, h2, h3, h4⟩
    dsimp only at h1 h2 h3 h4 ⊢
    by_cases hlt : lo < hi
    . have hmid : (lo + hi) / 2 < L.length := by omega
      have hq : ((lo : Int) + (hi : Int)) / 2 = (((lo + hi) / 2 : Nat) : Int) := by omega
      obtain ⟨c1, c2⟩ := cut_mid hs hmid h3 h4
      have hml : lo <= (lo + hi) / 2 /\ (lo + hi) / 2 < hi := by omega
      have hx : (L.map ints)[(((lo + hi) / 2 : Nat) : Int).toNat]? = some (ints L[(lo + hi) / 2]) := by rw [Int.toNat_natCast]; simp [hmid]
      have el := spec_l07Less (a := L[(lo + hi) / 2]) (b := w) (hLw _ (List.getElem_mem hmid)) hw
      generalize L[(lo + hi) / 2] = u at *
      generalize (lo + hi) / 2 = mid at *
      by_cases hc : cmpW u w < 0
      . rw [decide_eq_true hc] at el
        repeat (first | refine zc ?_ | refine zk (e := by exact el) (n := ?_) | refine zv ?_)
        rw [hq]
        repeat (first | refine zc ?_ | refine zk (e := by exact el) (n := ?_) | refine zv ?_)
        refine loop_n (mid + 1, hi) ⟨by show mid + 1 <= hi; omega, h2, c1 hc, h4⟩ ?_ rfl (by show hi - (mid + 1) < hi - lo; omega)
        exact zs
      . rw [decide_eq_false hc] at el
        repeat (first | refine zc ?_ | refine zk (e := by exact el) (n := ?_) | refine zv ?_)
        rw [hq]
        repeat (first | refine zc ?_ | refine zk (e := by exact el) (n := ?_) | refine zv ?_)
        refine loop_n (lo, mid) ⟨by show lo <= mid; omega, by show mid <= _; omega, h3, c2 hc⟩ ?_ rfl (by show mid - lo < hi - lo; omega)
        exact zs
    . have hle2 : lo = hi := by omega
      subst hle2
      have cu := cut_uniq hs (⟨h2, h3, h4⟩ : Cut L w lo)
      have hel := elsOk_intsL L
      by_cases hin : lo < L.length
      . have hx : (L.map ints)[(lo : Int).toNat]? = some (ints L[lo]) := by rw [Int.toNat_natCast]; simp [hin]
        have es := spec_l00Same (a := L[lo]) (b := w) (by have := hLw L[lo] (List.getElem_mem hin); omega) (by omega)
        by_cases he : L[lo] = w
        . rw [decide_eq_true he] at es
          rw [if_pos (by rw [List.getElem?_eq_getElem hin, he])] at cu
          rw [cu]
          repeat (first | refine zc ?_ | refine zk (e := by exact es) (n := ?_) | refine zv ?_ | refine zg ?_)
          refine zt ?_
          rfl
        . rw [decide_eq_false he] at es
          rw [if_neg (by rw [List.getElem?_eq_getElem hin]; exact fun e => he (Option.some.inj e))] at cu
          rw [cu]
          have eo := l00OwnA (ns := w) hw
          repeat (first | refine v_w (t := 40) ?_ | refine zc ?_ | refine u_w (t := 40) ?_ | ((first | apply x_l | apply x_q | apply x_lr | apply x_qr); (focus (first | (apply qa_slice_h; (iterate 8 (focus (first | exact rfl | (first | assumption | omega | (simp; omega) | (simp; done) | rfl))))) | (apply qa_slice_l; (iterate 8 (focus (first | exact rfl | (first | assumption | omega | (simp; omega) | (simp; done) | rfl))))))); exact rfl) | refine zk (e := by exact es) (n := ?_) | refine zk (e := by exact eo) (n := ?_) | (apply v_x; (iterate 2 exact rfl); (focus (intro ok0 nw hle; (first | (apply qa_slice_h; (iterate 8 (focus (first | exact rfl | (first | assumption | omega | (simp; omega) | (simp; done) | rfl))))) | (apply qa_slice_l; (iterate 8 (focus (first | exact rfl | (first | assumption | omega | (simp; omega) | (simp; done) | rfl)))))))); (iterate 2 exact rfl)) | refine zv ?_ | refine zg ?_)
          refine awpL_to rfl (by apply wo_append; (iterate 14 exact rfl); exact elsOk_takeL L _; (simp; omega)) ?_
          repeat (first | refine zc ?_ | ((first | apply x_l | apply x_q | apply x_lr | apply x_qr); (focus (first | (apply qa_slice_l; (iterate 8 (focus (first | exact rfl | (first | assumption | omega | (simp; omega) | (simp; done) | rfl))))))); exact rfl) | refine zk (e := by exact eo) (n := ?_) | (apply v_x; (iterate 2 exact rfl); (focus (intro ok0 nw hle; (first | (apply qa_slice_l; (iterate 8 (focus (first | exact rfl | (first | assumption | omega | (simp; omega) | (simp; done) | rfl)))))))); (iterate 2 exact rfl)) | refine zv ?_)
          refine awpL_to rfl (by apply wo_append; (iterate 14 exact rfl); exact elsOk_dropL L _; (simp; omega)) ?_
          repeat (first | refine zc ?_ | refine zv ?_)
          refine zt ?_
          simp [rows, ints, List.map_take, List.map_drop]
      . rw [if_neg (by rw [List.getElem?_eq_none (by omega)]; simp)] at cu
        rw [cu]
        have eo := l00OwnA (ns := w) hw
        repeat (first | refine v_w (t := 40) ?_ | refine zc ?_ | refine u_w (t := 40) ?_ | ((first | apply x_l | apply x_q | apply x_lr | apply x_qr); (focus (first | (apply qa_slice_h; (iterate 8 (focus (first | exact rfl | (first | assumption | omega | (simp; omega) | (simp; done) | rfl))))) | (apply qa_slice_l; (iterate 8 (focus (first | exact rfl | (first | assumption | omega | (simp; omega) | (simp; done) | rfl))))))); exact rfl) | refine zk (e := by exact eo) (n := ?_) | (apply v_x; (iterate 2 exact rfl); (focus (intro ok0 nw hle; (first | (apply qa_slice_h; (iterate 8 (focus (first | exact rfl | (first | assumption | omega | (simp; omega) | (simp; done) | rfl))))) | (apply qa_slice_l; (iterate 8 (focus (first | exact rfl | (first | assumption | omega | (simp; omega) | (simp; done) | rfl)))))))); (iterate 2 exact rfl)) | refine zv ?_ | refine zg ?_)
        refine awpL_to rfl (by apply wo_append; (iterate 14 exact rfl); exact elsOk_takeL L _; (simp; omega)) ?_
        repeat (first | refine zc ?_ | ((first | apply x_l | apply x_q | apply x_lr | apply x_qr); (focus (first | (apply qa_slice_l; (iterate 8 (focus (first | exact rfl | (first | assumption | omega | (simp; omega) | (simp; done) | rfl))))))); exact rfl) | refine zk (e := by exact eo) (n := ?_) | (apply v_x; (iterate 2 exact rfl); (focus (intro ok0 nw hle; (first | (apply qa_slice_l; (iterate 8 (focus (first | exact rfl | (first | assumption | omega | (simp; omega) | (simp; done) | rfl)))))))); (iterate 2 exact rfl)) | refine zv ?_)
        refine awpL_to rfl (by apply wo_append; (iterate 14 exact rfl); exact elsOk_dropL L _; (simp; omega)) ?_
        repeat (first | refine zc ?_ | refine zv ?_)
        refine zt ?_
        simp [rows, ints, List.map_take, List.map_drop]
theorem trU_is (n : Nat) : trU n = [] :: (List.range n).map fun k : Nat => [(k : Int)] := by
  apply List.ext_getElem?
  intro i
  have hl := trU_len (n := n)
  by_cases hi : i < 1 + n
  . have h1 : (trU n)[i]? = some (wN n i) := upN_get (by simp [gN]; omega)
    rw [h1]
    cases i with
    | zero => simp [wN_zero]
    | succ i =>
      have := wN_next (n := n) (i := 0) (l := i) (by omega)
      rw [Nat.mul_zero, Nat.add_zero, wN_zero, Nat.add_comm] at this
      rw [this]
      simp [show i < n by omega]
  . rw [List.getElem?_eq_none (by omega), List.getElem?_eq_none (by simp; omega)]
theorem uniqW_snoc (A : List (List Int)) (w : List Int) : uniqW (uniqW A ++ [w]) = uniqW (A ++ [w]) := uniqW_congr fun x => by
  rw [List.mem_append, List.mem_append, uniqW_mem]
theorem uniqW_nil : uniqW [] = [] := uniqW_eq List.Pairwise.nil fun _ => Iff.rfl
theorem spec_l07Transitions {s o : Int} {nx ou : List (List Int)} (m : MV s o nx ou) {C : List (List Int)} (hC : C.length <= 10) (hCw : ∀ w ∈ C, w.length <= 10) :
    AC Tryz.prog 43 [.ptr (mach s o nx ou), rows C] (rows (uniqW (trP nx.length C))) := by
  have hn := m.n1
  have hle : (List.map ints nx).length = nx.length := by simp
  have hCm : (List.map ints C).length = C.length := by simp
  have hU := trU_len (n := nx.length)
  have hUi := trU_is nx.length
  have hUw := trU_wl hn.1
  have hPt : ∀ i, i <= C.length -> (crsW (C.take i) (trU nx.length)).length = i * (trU nx.length).length := fun i hi => by rw [crsW_len, List.length_take, Nat.min_eq_left hi]
  have hPw : ∀ i, ∀ w ∈ crsW (C.take i) (trU nx.length), w.length <= 11 := fun i w hw => by
    simp only [crsW, List.mem_flatMap, List.mem_map] at hw
    obtain ⟨u, hu, x, hx, rfl⟩ := hw
    have := hCw u (List.mem_of_mem_take hu)
    have := (hUw x hx).1
    rw [List.length_append]; omega
  have hinto : ∀ (A : List (List Int)) (w : List Int), A.length <= 1000 -> (∀ u ∈ A, u.length <= 11) -> w.length <= 11 -> AC Tryz.prog 46 [rows (uniqW A), ints w] (rows (uniqW (A ++ [w]))) := fun A w h1 h2 h3 => by
    rw [<- uniqW_snoc]
    have := uniqW_len A
    exact spec_l07Into (uniqW_sorted A) (by omega) (fun u hu => by have := h2 u (uniqW_mem.1 hu); omega) (by omega)
  unfold trP
  unfold mach
  refine ac_intro tabIs _ Tryz.func43 rfl rfl Tryz.ntmps43 rfl rfl fun w0 ok0 he0 => ?_
  repeat (first | refine zc ?_ | refine zv ?_)
  refine awp_loop (fun i : Nat => i <= C.length) (fun i => [(0, .d (.ptr (.agg [.int .i64 s, .int .i64 o, rows nx, rows ou]))), (1, .d (rows C)), (5, .d (rows (uniqW (crsW (C.take i) (trU nx.length))))), (6, .d (.int .i64 i))]) (fun _ => []) (fun i => C.length - i) 0 (Nat.zero_le _) ?_ rfl ?_
  . rw [show uniqW (crsW (C.take 0) (trU nx.length)) = [] from uniqW_nil]
    exact zs
  . intro i hi
    by_cases hlt : i < C.length
    . have hx := el_row hlt
      have hcw := hCw _ (List.getElem_mem hlt)
      have hst := crsW_next (U := trU nx.length) hlt
      have hpi := hPt i hi
      have hpw := hPw i
      have hiu : i * (trU nx.length).length <= 10 * 4 := Nat.mul_le_mul (by omega) (by omega)
      generalize C[i] = w at *
      generalize crsW (C.take i) (trU nx.length) = P at *
      have e1 := hinto P w (by omega) hpw (by omega)
      repeat (first | refine zc ?_ | refine zk (e := by exact e1) (n := ?_) | refine zv ?_)
      refine awp_loop (fun k : Nat => k <= nx.length) (fun k => [(0, .d (.ptr (.agg [.int .i64 s, .int .i64 o, rows nx, rows ou]))), (1, .d (rows C)), (5, .d (rows (uniqW (P ++ ((trU nx.length).take (k + 1)).map fun x => w ++ x)))), (6, .d (.int .i64 i)), (7, .d (.int .i64 k))]) (fun _ => []) (fun k => nx.length - k) 0 (Nat.zero_le _) ?_ rfl ?_
      . rw [hUi]
        simp only [List.take_succ_cons, List.take_zero, List.map_cons, List.map_nil, List.append_nil]
        exact zs
      . intro k hk
        by_cases hkn : k < nx.length
        . have eo := spec_l00OwnH (ns := w) (by omega)
          have hst2 : P ++ ((trU nx.length).take (k + 1 + 1)).map (fun x => w ++ x) = (P ++ ((trU nx.length).take (k + 1)).map fun x => w ++ x) ++ [w ++ [(k : Int)]] := by
            have hk2 : k + 1 < (trU nx.length).length := by omega
            rw [List.take_succ_eq_append_getElem hk2, List.map_append, <- List.append_assoc]
            have : (trU nx.length)[k + 1] = [(k : Int)] := by simp [hUi]
            rw [this]; rfl
          have hl2 : (P ++ ((trU nx.length).take (k + 1)).map fun x => w ++ x).length <= 1000 := by
            rw [List.length_append, List.length_map, List.length_take]; omega
          have hw2 : ∀ u ∈ P ++ ((trU nx.length).take (k + 1)).map (fun x => w ++ x), u.length <= 11 := fun u hu => by
            rcases List.mem_append.1 hu with hu | hu
            . exact hpw u hu
            . obtain ⟨x, hx, rfl⟩ := List.mem_map.1 hu
              have := (hUw x (List.mem_of_mem_take hx)).1
              rw [List.length_append]; omega
          generalize (P ++ ((trU nx.length).take (k + 1)).map fun x => w ++ x) = P2 at *
          have e2 : AC Tryz.prog 46 [rows (uniqW P2), .lst (w.map (.int .i64) ++ [.int .i64 k])] (rows (uniqW (P2 ++ [w ++ [(k : Int)]]))) := by
            have := hinto P2 (w ++ [(k : Int)]) hl2 hw2 (by rw [List.length_append]; simp; omega)
            rwa [show ints (w ++ [(k : Int)]) = .lst (w.map (.int .i64) ++ [.int .i64 k]) by simp [ints]] at this
          repeat (first | refine zc ?_ | refine zv ?_)
          refine hcl [] [(30000, 500)] eo ?_
          (iterate 2 (refine u_l ?_))
          refine awpL_to rfl (by apply wo_append; (iterate 14 exact rfl); exact elsOk_ints [(k : Int)]; (simp; omega)) ?_
          refine awpL_freeze 500 rfl rfl ?_
          repeat (first | refine zc ?_ | refine zk (e := by exact e2) (n := ?_) | refine zv ?_)
          refine loop_n (k + 1) (by omega) ?_ rfl (by omega)
          rw [hst2]
          exact zs
        . have hke : k = nx.length := by omega
          subst hke
          rw [List.take_of_length_le (show (trU nx.length).length <= nx.length + 1 by omega)]
          repeat (first | refine zc ?_ | refine zv ?_)
          refine loop_n (i + 1) (by omega) ?_ rfl (by omega)
          rw [hst]
          exact zs
    . have hie : i = C.length := by omega
      subst hie
      rw [List.take_length]
      repeat (first | refine zc ?_ | refine zv ?_)
      refine zt ?_
      rfl
end Go.Proofs.YtfemhnmggobhjaaGreat
namespace Go.Proofs.YtfemhnmggobhjaaGreat
open Go
attribute [local irreducible] awp awpL awpQL awpQ awpM pWalk Qt AC thenQ blockQ loopQ OpTo
set_option linter.unusedVariables false
set_option linter.unusedSimpArgs false
set_option maxHeartbeats 2000000
attribute [local irreducible] HC HX
end Go.Proofs.YtfemhnmggobhjaaGreat
