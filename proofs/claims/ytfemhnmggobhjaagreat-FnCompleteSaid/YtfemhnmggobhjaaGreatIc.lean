/- StateCover in the program, and its law. No condition. -/
import Derived.Test.YtfemhnmggobhjaaGreatIa
import Derived.Test.YtfemhnmggobhjaaGreatFwZ
namespace Go.Proofs.YtfemhnmggobhjaaGreat
open Go
attribute [local irreducible] awp awpL awpQL awpQ awpM pWalk Qt AC thenQ blockQ loopQ OpTo
set_option linter.unusedVariables false
set_option linter.unusedSimpArgs false
set_option maxHeartbeats 2000000
attribute [local irreducible] HC HX
theorem rws_wrd (L : PL) : rws (wrd L) = L.map fun p => p.2.map (.int .i64) := by simp [rws, wrd]
theorem tags_noneC {n : Nat} {bs : List (Option Nat)} {xs : List (List Int)} {i : Nat} {w : List Int} (T : Tags n bs (rws xs)) (hx : xs[i]? = some w) (hb : bs[i]? = some none) : w.map (D.int .i64) = [] := by
  have := T.emp i hb
  rw [show (rws xs)[i]? = some (w.map (.int .i64)) by simp [rws, hx]] at this
  exact Option.some.inj this
theorem wrd_snoc (L : PL) (c : Nat) (w : List Int) : rws (wrd (L ++ [(c, w)])) = rws (wrd L) ++ [w.map (.int .i64)] := by simp [rws, wrd]
theorem wrd_len (L : PL) : (rws (wrd L)).length = L.length := by simp [rws, wrd]
theorem ordD_snoc (L : PL) (c : Nat) (w : List Int) : ordD (L ++ [(c, w)]) = ordD L ++ [.int .i64 (c : Nat)] := by simp [ordD]
theorem impl_firstWords {s o : Int} {nx ou : List (List Int)} (m : MV s o nx ou) :
    HX Tryz.prog 70 [.d (mach s o nx ou)] [] (ι := List (Option Nat)) (fun n bs => Tags n bs (rws (wrd (covL nx)))) (fun _ => .tup [.own 30000, .own 30001]) (fun bs => [(30000, .arr 2 1 (ordD (covL nx))), (30001, .map (kvC 2 bs (covL nx)))]) := by
  have hs := m.s1
  have hn := m.n1
  have hle : (List.map ints nx).length = nx.length := by simp
  have hlen := fun i => lstC_len m i
  have hokk := fun i => lstC_ok m i
  have hrl := fun l (hl : 0 <= l /\ l < (nx.length : Int)) => tbl_row m.nx hl
  unfold mach
  refine hx_intro tabIs _ Tryz.func70 rfl rfl Tryz.ntmps70 rfl rfl rfl ?_ fun w0 ok0 XM XA anc he0 hX0 => ?_
  . exact fun _ => likeIn_nil
  repeat (first | refine v_w (t := 14) ?_ | refine v_w (t := 12) ?_ | refine zc ?_ | refine u_w (t := 12) ?_ | refine u_w (t := 14) ?_ | refine zv ?_)
  refine awpL_tagFirst 14 rfl rfl fun ob T0 => ?_
  (apply lto; (focus (apply wo_mapInsert; (iterate 9 exact rfl))))
  repeat (first | refine zc ?_ | refine zv ?_)
  refine awp_permTo [(12, .arr 2 1 (ordD (lstC nx 0))), (13, .map (kvC 2 [ob] (lstC nx 0)))] (by as_aux_lemma => kernel_rfl) ?_
  refine awp_loop (fun q : Nat × List (Option Nat) => q.1 <= 10 /\ Tags w0.heap.size q.2 (rws (wrd (lstC nx q.1)))) (fun q => [(1, .d (.ptr (.agg [.int .i64 s, .int .i64 o, rows nx, rows ou]))), (4, .own 12), (5, .own 13), (6, .d (.int .i64 q.1))])
    (fun q => [(12, .arr 2 1 (ordD (lstC nx q.1))), (13, .map (kvC 2 q.2 (lstC nx q.1)))]) (fun q => 10 - q.1) (0, [ob]) ⟨Nat.zero_le _, T0⟩ ?_ rfl ?_
  . exact zs
  . rintro ⟨i, bs⟩ ⟨hi, T⟩
    dsimp only at hi T ⊢
    have hl := hlen i
    have hlo : (ordD (lstC nx i)).length = (lstC nx i).length := by simp [ordD]
    by_cases hlt : i < (lstC nx i).length
    . have hp : (lstC nx i)[i]? = some (lstC nx i)[i] := List.getElem?_eq_getElem hlt
      have hpm : (lstC nx i)[i] ∈ lstC nx i := List.getElem_mem hlt
      have hnx := lstC_next hp
      have hlo0 := (hokk i).lt _ hpm
      have hwl := (hokk i).wl _ hpm
      have hok := letC_ok m (hokk i) hpm
      have hpre := letC_pre nx (lstC nx i)[i] (lstC nx i)
      generalize (lstC nx i)[i] = p at *
      have x0 : (ordD (lstC nx i))[(i : Int).toNat]? = some (.int .i64 (p.1 : Nat)) := by rw [Int.toNat_natCast]; simp [ordD, hp]
      repeat (first | refine zc ?_ | refine zv ?_)
      refine awp_loop (fun q : Nat × List (Option Nat) => q.1 <= nx.length /\ Tags w0.heap.size q.2 (rws (wrd (letC nx p (lstC nx i) q.1)))) (fun q => [(1, .d (.ptr (.agg [.int .i64 s, .int .i64 o, rows nx, rows ou]))), (4, .own 12), (5, .own 13), (6, .d (.int .i64 i)), (7, .d (.int .i64 (p.1 : Nat))), (27, .d (rows nx)), (28, .d (.int .i64 (List.map ints nx).length)), (29, .d (.int .i64 q.1))])
        (fun q => [(12, .arr 2 1 (ordD (letC nx p (lstC nx i) q.1))), (13, .map (kvC 2 q.2 (letC nx p (lstC nx i) q.1)))]) (fun q => nx.length - q.1) (0, bs) ⟨Nat.zero_le _, T⟩ ?_ rfl ?_
      . exact zs
      . rintro ⟨k, cs⟩ ⟨hk, T2⟩
        dsimp only at hk T2 ⊢
        have hokk2 := hok k hk
        have hlk := hokk2.len hs
        obtain ⟨t, ht⟩ := hpre k
        have hpk : (letC nx p (lstC nx i) k)[i]? = some p := by rw [ht, List.getElem?_append_left hlt]; exact hp
        have hTl := T2.len
        rw [wrd_len] at hTl
        by_cases hkn : k < nx.length
        . have hst : letC nx p (lstC nx i) (k + 1) = addP (letC nx p (lstC nx i) k) (nxC nx p.1 k) (p.2 ++ [(k : Int)]) := rfl
          obtain ⟨c1, c2, c3⟩ := nxC_ok m (c := p.1) hkn hlo0
          have hiL : i < (letC nx p (lstC nx i) k).length := by rw [ht, List.length_append]; omega
          generalize letC nx p (lstC nx i) k = L at *
          have hlL : (ordD L).length = L.length := by simp [ordD]
          have x1 := el_row2 (xs := nx) (l := (k : Int)) (by omega)
          have hr := hrl (k : Int) (by omega)
          have x2 := el_int2 (ns := row nx (k : Int)) (q := ((p.1 : Nat) : Int)) (by omega)
          have hat : (row nx (k : Int)).getD ((p.1 : Nat) : Int).toNat 0 = ((nxC nx p.1 k : Nat) : Int) := by rw [c1]; rfl
          rw [hat] at x2
          generalize nxC nx p.1 k = c at *
          have hkeys : keysI .i64 (kvC 2 cs L) = true := kvC_keys cs L
          by_cases hm : c ∈ L.map (·.1)
          . rw [addP_old hm] at hst
            obtain ⟨q, hq, hqe⟩ := List.mem_map.1 hm
            obtain ⟨j, hj, e⟩ := List.getElem_of_mem hq
            have hLj : L[j]? = some q := by rw [List.getElem?_eq_getElem hj, e]
            have hg : MGt ((c : Nat) : Int) (kvC 2 cs L) (some (tagD 2 1 (cs[j]'(by omega)) (q.2.map (.int .i64)))) := ⟨by rw [<- hqe]; exact kvC_get cs L j _ q hokk2.nd (List.getElem?_eq_getElem (by omega)) hLj⟩
            repeat (first | refine zc ?_ | ((first | apply x_l | apply x_q | apply x_lr | apply x_qr); (focus (first | (apply wa_gt; (iterate 11 (focus (first | exact rfl | (first | assumption | omega | (simp; omega) | (simp; done) | rfl))))))); exact rfl) | (apply v_x; (iterate 2 exact rfl); (focus (intro ok0 nw hle; (first | (apply wa_gt; (iterate 11 (focus (first | exact rfl | (first | assumption | omega | (simp; omega) | (simp; done) | rfl)))))))); (iterate 2 exact rfl)) | refine zv ?_)
            refine loop_n (k + 1, cs) ⟨by show k + 1 <= _; omega, by rw [hst]; exact T2⟩ ?_ ?_ (by show _ - (k + 1) < _ - k; omega)
            . exact zs
            . show [_, _] = _
              rw [hst]
          . rw [addP_new hm] at hst
            have hg : MGt ((c : Nat) : Int) (kvC 2 cs L) none := ⟨kvC_none cs L hm⟩
            have hb2 : cs[i]? = some (cs[i]'(by omega)) := List.getElem?_eq_getElem (by omega)
            have hg2 : MGt ((p.1 : Nat) : Int) (kvC 2 cs L) (some (tagD 2 1 (cs[i]'(by omega)) (p.2.map (.int .i64)))) := ⟨kvC_get cs L i _ p hokk2.nd hb2 hpk⟩
            have hbn : cs[i]'(by omega) = none -> p.2.map (D.int .i64) = [] := fun hn => tags_noneC (xs := wrd L) (i := i) T2 (by simp [wrd, hpk]) (by rw [hb2, hn])
            have e2 := HC.le1 (impl_cloneH (ns := p.2) (by omega)) (tagD_le (e := 2) (sz := 1) hbn)
            have hmt := kvC_tags (e := 2) cs L (by omega)
            generalize cs[i]'(by omega) = b at *
            have hw : (p.2 ++ [(k : Int)]).map (D.int .i64) = p.2.map (D.int .i64) ++ [.int .i64 k] := by simp
            have hwb : (p.2.map (D.int .i64)).length + 1 <= 1099511627776 := by simp; omega
            repeat (first | refine zcn ?_ | ((first | apply x_l | apply x_q | apply x_lr | apply x_qr); (focus (first | (apply wa_gt; (iterate 11 (focus (first | exact rfl | (first | assumption | omega | (simp; omega) | (simp; done) | rfl))))))); exact rfl) | (apply v_x; (iterate 2 exact rfl); (focus (intro ok0 nw hle; (first | (apply wa_gt; (iterate 11 (focus (first | exact rfl | (first | assumption | omega | (simp; omega) | (simp; done) | rfl)))))))); (iterate 2 exact rfl)) | refine zv ?_)
            refine awp_planT 12 [(8, [500]), (11, [500])] (.tk [500] [0, 1, 2, 3, 4, 5, 6, 7, 9, 10] (.tk [] [8, 11] .done)) mixedIs (by as_aux_lemma => kernel_rfl) rfl ?_
            repeat (first | refine zc ?_ | ((first | apply x_l | apply x_q | apply x_lr | apply x_qr); (focus (first | (apply wa_gt; (iterate 11 (focus (first | exact rfl | (first | assumption | omega | (simp; omega) | (simp; done) | rfl))))))); exact rfl) | (apply v_x; (iterate 2 exact rfl); (focus (intro ok0 nw hle; (first | (apply wa_gt; (iterate 11 (focus (first | exact rfl | (first | assumption | omega | (simp; omega) | (simp; done) | rfl)))))))); (iterate 2 exact rfl)) | refine zv ?_)
            refine hclM [] [(30000, 500)] e2 ?_
            repeat (first | refine zc ?_ | refine zv ?_)
            refine awpL_tagMap 500 13 T2 rfl rfl hmt rfl fun ob' T3 => ?_
            (apply lto; (focus (apply wo_mapUpdate; (iterate 8 exact rfl); exact hkeys)))
            repeat (first | refine zcr ?_ | refine zv ?_)
            refine awp_region ?_
            repeat (first | refine zcr ?_ | refine zv ?_)
            refine awp_perm _ rfl ?_
            repeat (first | refine zc ?_ | refine zv ?_)
            refine loop_n (k + 1, cs ++ [ob']) ⟨by show k + 1 <= _; omega, by rw [hst, wrd_snoc, hw]; exact T3⟩ ?_ ?_ (by show _ - (k + 1) < _ - k; omega)
            . exact zs
            . show [_, _] = _
              rw [hst, ordD_snoc, <- kvC_put cs L (by omega) hm, hw]
              rfl
        . have hke : k = nx.length := by omega
          subst hke
          repeat (first | refine zc ?_ | refine zv ?_)
          refine loop_n (i + 1, cs) ⟨by show i + 1 <= _; omega, by rw [hnx]; exact T2⟩ ?_ ?_ (by show _ - (i + 1) < _ - i; omega)
          . exact zs
          . show [_, _] = _
            rw [hnx]
    . have hce := covL_eq m hi (by omega)
      rw [hce] at hlo hlt T ⊢
      repeat (first | refine zc ?_ | refine zv ?_)
      (refine awp_ret ?_; (repeat (first | refine then_r ?_ | refine block_r ?_ | refine loop_r ?_)); refine ⟨bs, T, u_rH [(12, 30000), (13, 30001)] ?_ ?_⟩)
      . rfl
      . rfl
end Go.Proofs.YtfemhnmggobhjaaGreat
namespace Go.Proofs.YtfemhnmggobhjaaGreat
open Go
attribute [local irreducible] awp awpL awpQL awpQ awpM pWalk Qt AC thenQ blockQ loopQ OpTo
set_option linter.unusedVariables false
set_option linter.unusedSimpArgs false
set_option maxHeartbeats 2000000
attribute [local irreducible] HC HX
def cvB (bs : List (Option Nat)) (L : PL) (q : Nat) : Option Nat := ((List.zip bs L).find? fun p => p.2.1 == q).bind (·.1)
theorem cvB_at {bs : List (Option Nat)} {L : PL} (hn : (L.map (·.1)).Nodup) : ∀ {j : Nat} {p : Nat × List Int} {b : Option Nat}, bs.length = L.length -> L[j]? = some p -> bs[j]? = some b -> cvB bs L p.1 = b := by
  induction L generalizing bs with
  | nil => intro j p b hl hp; simp at hp
  | cons a L ih =>
    intro j p b hl hp hb
    cases bs with
    | nil => simp at hl
    | cons b0 bs =>
      simp only [List.map_cons, List.nodup_cons] at hn
      unfold cvB
      rw [List.zip_cons_cons, List.find?_cons]
      cases j with
      | zero => simp at hp hb; subst hp hb; simp
      | succ j =>
        have hp' : L[j]? = some p := by simpa using hp
        have hne : (a.1 == p.1) = false := by
          have : a.1 ≠ p.1 := fun e => hn.1 (e ▸ List.mem_map_of_mem (List.mem_of_getElem? hp'))
          simpa using this
        simp only [hne]
        exact ih hn.2 (by simpa using hl) hp' (by simpa using hb)
theorem mget_cv {e : Nat} {bs : List (Option Nat)} {L : PL} (hn : (L.map (·.1)).Nodup) (hl : bs.length = L.length) {q : Nat} (hq : q ∈ L.map (·.1)) : mget ((q : Nat) : Int) (kvC e bs L) = some (tagD e 1 (cvB bs L q) ((cvW L q).map (.int .i64))) := by
  obtain ⟨p, hp, rfl⟩ := List.mem_map.1 hq
  obtain ⟨j, hj, ej⟩ := List.getElem_of_mem hp
  have hLj : L[j]? = some p := by rw [List.getElem?_eq_getElem hj, ej]
  have hbj : bs[j]? = some (bs[j]'(by omega)) := List.getElem?_eq_getElem (by omega)
  rw [kvC_get bs L j _ p hn hbj hLj, cvB_at hn hl hLj hbj, cvW_at hn hLj]
theorem cvB_none {bs : List (Option Nat)} {L : PL} {q : Nat} (h : q ∉ L.map (·.1)) : cvB bs L q = none := by
  unfold cvB
  rw [List.find?_eq_none.2]
  . rfl
  . intro p hp
    have := (List.of_mem_zip hp).2
    simp only [beq_iff_eq]
    exact fun e => h (e ▸ List.mem_map_of_mem this)
theorem cvW_none {L : PL} {q : Nat} (h : q ∉ L.map (·.1)) : cvW L q = [] := by
  unfold cvW
  rw [List.find?_eq_none.2]
  . rfl
  . intro p hp
    simp only [beq_iff_eq]
    exact fun e => h (e ▸ List.mem_map_of_mem hp)
def cvT (bs : List (Option Nat)) (L : PL) (n : Nat) : List (Option Nat) := (List.range n).map (cvB bs L)
def cvA (L : PL) (n : Nat) : Bool := (List.range n).all fun q => decide (q ∈ L.map (·.1))
theorem cvT_tags {m : Nat} {bs : List (Option Nat)} {L : PL} (hn : (L.map (·.1)).Nodup) (T : Tags m bs (rws (wrd L))) (n : Nat) : Tags m (cvT bs L n) (rws (cvR L n)) := by
  have hl : bs.length = L.length := by rw [T.len, wrd_len]
  have key : ∀ q, (cvB bs L q = none /\ cvW L q = []) \/ ∃ j, bs[j]? = some (cvB bs L q) /\ ∃ p : Nat × List Int, L[j]? = some p /\ p.1 = q /\ cvW L q = p.2 := fun q => by
    by_cases hq : q ∈ L.map (·.1)
    . right
      obtain ⟨p, hp, hpq⟩ := List.mem_map.1 hq
      obtain ⟨j, hj, ej⟩ := List.getElem_of_mem hp
      have hLj : L[j]? = some p := by rw [List.getElem?_eq_getElem hj, ej]
      have hbj : bs[j]? = some (bs[j]'(by omega)) := List.getElem?_eq_getElem (by omega)
      exact ⟨j, by rw [hbj, <- hpq, cvB_at hn hl hLj hbj], p, hLj, hpq, by rw [<- hpq, cvW_at hn hLj]⟩
    . exact .inl ⟨cvB_none hq, cvW_none hq⟩
  have hget : ∀ (i : Nat) b, (cvT bs L n)[i]? = some b -> i < n /\ b = cvB bs L i := fun i b hb => by
    unfold cvT at hb
    rw [List.getElem?_map, Option.map_eq_some_iff] at hb
    obtain ⟨q, hq, rfl⟩ := hb
    rcases Nat.lt_or_ge i n with h | h
    . rw [List.getElem?_range h] at hq
      cases hq
      exact ⟨h, rfl⟩
    . rw [List.getElem?_eq_none (by simpa using h)] at hq
      cases hq
  refine ⟨by simp [cvT, rws, cvR], fun b hb => ?_, fun i j b hi hj => ?_, fun i hi => ?_⟩
  . obtain ⟨i, hi, e⟩ := List.getElem_of_mem hb
    obtain ⟨h1, h2⟩ := hget i _ (List.getElem?_eq_getElem hi)
    rw [e] at h2
    rcases key i with ⟨k, -⟩ | ⟨j, k1, -⟩
    . rw [k] at h2; cases h2
    . rw [<- h2] at k1
      exact T.new b (List.mem_of_getElem? k1)
  . obtain ⟨h1, h2⟩ := hget i _ hi
    obtain ⟨h3, h4⟩ := hget j _ hj
    rcases key i with ⟨k, -⟩ | ⟨k, k1, p, k2, k3, -⟩
    . rw [k] at h2; cases h2
    rcases key j with ⟨k', -⟩ | ⟨k', k1', p', k2', k3', -⟩
    . rw [k'] at h4; cases h4
    rw [<- h2] at k1
    rw [<- h4] at k1'
    have := T.nd k k' b k1 k1'
    subst this
    rw [k2] at k2'
    cases k2'
    omega
  . obtain ⟨h1, h2⟩ := hget i _ hi
    have hx : (rws (cvR L n))[i]? = some ((cvW L i).map (.int .i64)) := by simp [rws, cvR, h1]
    rw [hx]
    rcases key i with ⟨-, k⟩ | ⟨k, k1, p, k2, k3, k4⟩
    . rw [k]; rfl
    . rw [<- h2] at k1
      have := T.emp k k1
      rw [rws_wrd, List.getElem?_map, k2] at this
      rw [k4]
      exact this
theorem cvA_next (L : PL) (q : Nat) : cvA L (q + 1) = (cvA L q && decide (q ∈ L.map (·.1))) := by simp [cvA, List.range_succ]
theorem cvA_is {s : Int} {n : Nat} {L : PL} (h : COk s n L) (hs : 0 <= s) : cvA L s.toNat = !decide ((L.length : Int) < s) := by
  by_cases hc : (L.length : Int) < s
  . rw [decide_eq_true hc]
    refine Bool.eq_false_iff.2 fun ha => ?_
    have ha : ∀ q, q < s.toNat -> q ∈ L.map (·.1) := fun q hq => by
      have := List.all_eq_true.1 ha q (List.mem_range.2 hq)
      simpa using this
    have := nodupLe (L.map (·.1)).length ((List.range s.toNat).map fun q => (L.map (·.1)).idxOf q) ?_ ?_
    . simp at this; omega
    . refine List.nodup_iff_pairwise_ne.2 (List.pairwise_map.2 (List.Pairwise.imp_of_mem ?_ (List.nodup_iff_pairwise_ne.1 List.nodup_range)))
      intro a b ha' hb' hab e
      have h1 := ha a (List.mem_range.1 ha')
      have h2 := ha b (List.mem_range.1 hb')
      have h3 := List.getElem_idxOf (List.idxOf_lt_length_iff.2 h1)
      have h4 := List.getElem_idxOf (List.idxOf_lt_length_iff.2 h2)
      apply hab
      rw [<- h3, <- h4]
      congr 1
    . intro x hx
      obtain ⟨q, hq, rfl⟩ := List.mem_map.1 hx
      exact List.idxOf_lt_length_iff.2 (ha q (List.mem_range.1 hq))
  . rw [decide_eq_false hc]
    refine List.all_eq_true.2 fun q hq => ?_
    have := nodup_all h.nd (N := s.toNat) (fun x hx => by
      obtain ⟨p, hp, rfl⟩ := List.mem_map.1 hx
      have := h.lt p hp
      omega) (by simp; omega) (List.mem_range.1 hq)
    simpa using this
theorem impl_cover {s o : Int} {nx ou : List (List Int)} (m : MV s o nx ou) :
    HC Tryz.prog 64 [.d (mach s o nx ou)] [] (.tup [.own 30000, .d (.bool (!decide (((covL nx).length : Int) < s)))]) [(30000, .rows 43 2 1 (rws (cvR (covL nx) s.toNat)) none)] := by
  have hs := m.s1
  have e1 := impl_firstWords m
  have hok : COk s nx.length (covL nx) := lstC_ok m 10
  generalize covL nx = L at *
  have hca := cvA_is hok (by omega)
  rw [<- hca]
  unfold mach at *
  refine hc_intro tabIs _ Tryz.func64 rfl rfl Tryz.ntmps64 rfl rfl rfl ?_ fun w0 ok0 XM XA anc he0 hX0 => ?_
  . exact likeIn_nil
  repeat (first | refine v_w (t := 11) ?_ | refine zc ?_ | refine u_w (t := 11) ?_ | refine zv ?_)
  refine hxl [] [(30000, 500), (30001, 501)] [] e1 (fun n m i h T => ⟨T.len, fun b hb => Nat.le_trans h (T.new b hb), T.nd, T.emp⟩) fun bs T => ?_
  have hbl : bs.length = L.length := by rw [T.len, wrd_len]
  have hkeys : keysI .i64 (kvC 2 bs L) = true := kvC_keys bs L
  repeat (first | refine zc ?_ | refine zv ?_)
  refine awp_permTo [(11, .arr 43 1 (tagL 2 1 (cvT bs L 0) (rws (cvR L 0)))), (500, .arr 2 1 (ordD L)), (501, .map (kvC 2 bs L))] (by as_aux_lemma => kernel_rfl) ?_
  refine awp_loop (fun q : Nat => (q : Int) <= s) (fun q => [(1, .d (.ptr (.agg [.int .i64 s, .int .i64 o, rows nx, rows ou]))), (4, .own 11), (5, .d (.bool (cvA L q))), (7, .own 501), (18, .d (.int .i64 s)), (19, .d (.int .i64 q))])
    (fun q => [(11, .arr 43 1 (tagL 2 1 (cvT bs L q) (rws (cvR L q)))), (500, .arr 2 1 (ordD L)), (501, .map (kvC 2 bs L))]) (fun q => s.toNat - q) 0 (by omega) ?_ rfl ?_
  . exact zs
  . intro q hq
    have hTl : (cvT bs L q).length = (rws (cvR L q)).length := by simp [cvT, rws, cvR]
    have hlenT : (tagL 2 1 (cvT bs L q) (rws (cvR L q))).length = q := by rw [tagL_length hTl]; simp [rws, cvR]
    by_cases hlt : (q : Int) < s
    . have h1 : cvT bs L (q + 1) = cvT bs L q ++ [cvB bs L q] := by simp [cvT, List.range_succ]
      have h2 : rws (cvR L (q + 1)) = rws (cvR L q) ++ [(cvW L q).map (.int .i64)] := by simp [rws, cvR, List.range_succ]
      have h3 := cvA_next L q
      by_cases hin : q ∈ L.map (·.1)
      . have hg : MGt ((q : Nat) : Int) (kvC 2 bs L) (some (tagD 2 1 (cvB bs L q) ((cvW L q).map (.int .i64)))) := ⟨mget_cv hok.nd hbl hin⟩
        rw [decide_eq_true hin, Bool.and_true] at h3
        have helo : elsOk 1 [tagD 2 1 (cvB bs L q) ((cvW L q).map (D.int .i64))] = true := elsOk_tag
        generalize cvB bs L q = b at *
        generalize (cvW L q).map (D.int .i64) = w at *
        cases hb : cvA L q
        all_goals rw [hb] at h3
        all_goals
          repeat (first | refine zc ?_ | ((first | apply x_l | apply x_q | apply x_lr | apply x_qr); (focus (first | (apply wa_gt; (iterate 11 (focus (first | exact rfl | (first | assumption | omega | (simp; omega) | (simp; done) | rfl))))) | (apply wa_lit; (iterate 10 (focus (first | exact rfl | (first | assumption | omega | (simp; omega) | (simp; done) | rfl))))))); exact rfl) | (apply v_x; (iterate 2 exact rfl); (focus (intro ok0 nw hle; (first | (apply wa_gt; (iterate 11 (focus (first | exact rfl | (first | assumption | omega | (simp; omega) | (simp; done) | rfl))))) | (apply wa_lit; (iterate 10 (focus (first | exact rfl | (first | assumption | omega | (simp; omega) | (simp; done) | rfl)))))))); (iterate 2 exact rfl)) | refine zv ?_)
          refine awpL_to rfl (by apply wo_append; (iterate 14 exact rfl); exact elsOk_tag; (simp only [hlenT, List.length_singleton]; omega)) ?_
          repeat (first | refine zc ?_ | refine zv ?_)
          refine loop_n (q + 1) (by omega) ?_ ?_ (by omega)
          . rw [h3]; exact zs
          . rw [h1, h2, tagL_snoc hTl]; rfl
      . have hg : MGt ((q : Nat) : Int) (kvC 2 bs L) none := ⟨kvC_none bs L hin⟩
        rw [decide_eq_false hin, Bool.and_false] at h3
        have hB := cvB_none (bs := bs) hin
        have hW := cvW_none hin
        have helo : elsOk 1 [tagD 2 1 none []] = true := elsOk_tag
        rw [hB] at h1
        rw [hW] at h2
        cases hb : cvA L q
        all_goals
          repeat (first | refine zc ?_ | ((first | apply x_l | apply x_q | apply x_lr | apply x_qr); (focus (first | (apply wa_gt; (iterate 11 (focus (first | exact rfl | (first | assumption | omega | (simp; omega) | (simp; done) | rfl))))) | (apply wa_lit; (iterate 10 (focus (first | exact rfl | (first | assumption | omega | (simp; omega) | (simp; done) | rfl))))))); exact rfl) | (apply v_x; (iterate 2 exact rfl); (focus (intro ok0 nw hle; (first | (apply wa_gt; (iterate 11 (focus (first | exact rfl | (first | assumption | omega | (simp; omega) | (simp; done) | rfl))))) | (apply wa_lit; (iterate 10 (focus (first | exact rfl | (first | assumption | omega | (simp; omega) | (simp; done) | rfl)))))))); (iterate 2 exact rfl)) | refine zv ?_)
          refine loop_n (q + 1) (by omega) ?_ ?_ (by omega)
          . rw [h3]; exact zs
          . rw [h1, h2, tagL_snoc hTl]; rfl
    . have hqe : q = s.toNat := by omega
      subst hqe
      have T2 := cvT_tags hok.nd T s.toNat
      repeat (first | refine zc ?_ | refine zv ?_)
      refine awp_thawRows 2 11 rfl rfl T2 rfl (fun xs hxs x hx => by
        simp only [rws, List.mem_map] at hxs
        obtain ⟨w, -, rfl⟩ := hxs
        obtain ⟨v, -, rfl⟩ := List.mem_map.1 hx
        rfl) rfl ?_
      (refine zb ?_; refine u_rH [(11, 30000)] ?_ ?_)
      . rfl
      . rfl
end Go.Proofs.YtfemhnmggobhjaaGreat
