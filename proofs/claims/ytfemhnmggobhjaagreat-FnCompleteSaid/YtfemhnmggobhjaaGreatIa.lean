/- The states that can be reached, and the first words that lead to them: plain facts, and the reference. No condition. -/
import Derived.Test.YtfemhnmggobhjaaGreatCa
import Derived.Test.YtfemhnmggobhjaaGreatFwZ
namespace Go.Proofs.YtfemhnmggobhjaaGreat
open Go
attribute [local irreducible] awp awpL awpQL awpQ awpM pWalk Qt AC thenQ blockQ loopQ OpTo
set_option linter.unusedVariables false
set_option linter.unusedSimpArgs false
set_option maxHeartbeats 2000000
attribute [local irreducible] HC
def nxC (nx : List (List Int)) (c x : Nat) : Nat := (at2 nx x c).toNat
def letC (nx : List (List Int)) (p : Nat × List Int) (L : PL) : Nat -> PL
  | 0 => L
  | x + 1 => addP (letC nx p L x) (nxC nx p.1 x) (p.2 ++ [(x : Int)])
def lstC (nx : List (List Int)) : Nat -> PL
  | 0 => [(0, [])]
  | i + 1 => match (lstC nx i)[i]? with
    | some p => letC nx p (lstC nx i) nx.length
    | none => lstC nx i
structure COk (s : Int) (n : Nat) (L : PL) : Prop where
  nd : (L.map (·.1)).Nodup
  lt : ∀ p ∈ L, (p.1 : Int) < s
  wl : ∀ p ∈ L, p.2.length < L.length
  el : ∀ p ∈ L, ∀ l ∈ p.2, 0 <= l /\ l < n
theorem COk.len {s : Int} {n : Nat} {L : PL} (h : COk s n L) (hs : 1 <= s /\ s <= 10) : L.length <= s.toNat := by
  have := nodupLe s.toNat (L.map (·.1)) h.nd fun x hx => by
    obtain ⟨p, hp, rfl⟩ := List.mem_map.1 hx
    have := h.lt p hp
    omega
  simpa using this
theorem addP_okC {s : Int} {n : Nat} {L : PL} {c : Nat} {w : List Int} (h : COk s n L) (hc : (c : Int) < s) (hw : w.length <= L.length) (hl : ∀ l ∈ w, 0 <= l /\ l < n) : COk s n (addP L c w) := by
  unfold addP
  split
  . exact h
  . rename_i hn
    refine ⟨?_, fun p hp => ?_, fun p hp => ?_, fun p hp => ?_⟩
    . rw [List.map_append]
      refine List.nodup_append.2 ⟨h.nd, by simp, fun a ha b hb => ?_⟩
      simp only [List.map_cons, List.map_nil, List.mem_singleton] at hb
      subst hb
      exact fun e => hn (e ▸ ha)
    . rcases List.mem_append.1 hp with h1 | h1
      . exact h.lt p h1
      . simp only [List.mem_singleton] at h1; subst h1; exact hc
    . rw [List.length_append, List.length_singleton]
      rcases List.mem_append.1 hp with h1 | h1
      . have := h.wl p h1; omega
      . simp only [List.mem_singleton] at h1; subst h1; show w.length < _; omega
    . rcases List.mem_append.1 hp with h1 | h1
      . exact h.el p h1
      . simp only [List.mem_singleton] at h1; subst h1; exact hl
theorem letC_pre (nx : List (List Int)) (p : Nat × List Int) (L : PL) : ∀ k, ∃ t, letC nx p L k = L ++ t
  | 0 => ⟨[], by simp [letC]⟩
  | k + 1 => by
    obtain ⟨t, ht⟩ := letC_pre nx p L k
    obtain ⟨u, hu⟩ := addP_pre (letC nx p L k) (nxC nx p.1 k) (p.2 ++ [(k : Int)])
    exact ⟨t ++ u, by show addP _ _ _ = _; rw [hu, ht, List.append_assoc]⟩
section
variable {s o : Int} {nx ou : List (List Int)}
theorem nxC_ok (m : MV s o nx ou) {c x : Nat} (hx : x < nx.length) (hc : (c : Int) < s) : ((nxC nx c x : Nat) : Int) = at2 nx x c /\ 0 <= at2 nx x c /\ at2 nx x c < s := by
  have h1 := tbl_at m.nx (l := (x : Int)) (q := (c : Int)) (by omega) (by omega)
  unfold nxC
  omega
theorem letC_ok (m : MV s o nx ou) {p : Nat × List Int} {L : PL} (h : COk s nx.length L) (hp : p ∈ L) : ∀ k, k <= nx.length -> COk s nx.length (letC nx p L k)
  | 0, _ => h
  | k + 1, hk => by
    have ih := letC_ok m h hp k (by omega)
    obtain ⟨h1, h2, h3⟩ := nxC_ok m (c := p.1) (x := k) (by omega) (h.lt p hp)
    obtain ⟨t, ht⟩ := letC_pre nx p L k
    have hw := h.wl p hp
    refine addP_okC ih (by omega) ?_ fun l hl => ?_
    . rw [ht, List.length_append, List.length_append]
      simp only [List.length_singleton]
      omega
    . rcases List.mem_append.1 hl with hl | hl
      . exact h.el p hp l hl
      . simp only [List.mem_singleton] at hl; subst hl; omega
theorem lstC_ok (m : MV s o nx ou) : ∀ i, COk s nx.length (lstC nx i)
  | 0 => by
    have h1 := m.s1
    refine ⟨by simp [lstC], fun p hp => ?_, fun p hp => ?_, fun p hp => ?_⟩
    . simp only [lstC, List.mem_singleton] at hp; subst hp; simp; omega
    . simp only [lstC, List.mem_singleton] at hp; subst hp; simp [lstC]
    . simp only [lstC, List.mem_singleton] at hp; subst hp; simp
  | i + 1 => by
    have ih := lstC_ok m i
    unfold lstC
    split
    . rename_i p hp
      exact letC_ok m ih (List.mem_of_getElem? hp) nx.length (Nat.le_refl _)
    . exact ih
theorem lstC_len (m : MV s o nx ou) (i : Nat) : (lstC nx i).length <= 10 := by
  have := (lstC_ok m i).len m.s1
  have := m.s1
  omega
theorem lstC_next {i : Nat} {p : Nat × List Int} (hp : (lstC nx i)[i]? = some p) : lstC nx (i + 1) = letC nx p (lstC nx i) nx.length := by
  conv => lhs; unfold lstC
  rw [hp]
theorem lstC_stop {i : Nat} (h : (lstC nx i).length <= i) : ∀ d, lstC nx (i + d) = lstC nx i
  | 0 => rfl
  | d + 1 => by
    have ih := lstC_stop h d
    show lstC nx (i + d + 1) = _
    conv => lhs; unfold lstC
    rw [ih, List.getElem?_eq_none (by omega)]
def covL (nx : List (List Int)) : PL := lstC nx 10
theorem covL_eq (m : MV s o nx ou) {i : Nat} (hi : i <= 10) (h : (lstC nx i).length <= i) : lstC nx i = covL nx := by
  have := lstC_stop h (10 - i)
  rw [show i + (10 - i) = 10 by omega] at this
  exact this.symm
end
def ordD (L : PL) : List D := L.map fun p => D.int .i64 (p.1 : Nat)
def ordI (L : PL) : List Int := L.map fun p => ((p.1 : Nat) : Int)
def wrd (L : PL) : List (List Int) := L.map (·.2)
theorem ordD_ints (L : PL) : ordD L = (ordI L).map (.int .i64) := by simp [ordD, ordI]
theorem addP_new {L : PL} {c : Nat} {w : List Int} (h : c ∉ L.map (·.1)) : addP L c w = L ++ [(c, w)] := if_neg h
theorem addP_old {L : PL} {c : Nat} {w : List Int} (h : c ∈ L.map (·.1)) : addP L c w = L := if_pos h
theorem mem_ordI {c : Nat} {L : PL} : ((c : Nat) : Int) ∈ ordI L ↔ c ∈ L.map (·.1) := by
  unfold ordI
  simp only [List.mem_map]
  constructor
  . rintro ⟨p, hp, e⟩; exact ⟨p, hp, by omega⟩
  . rintro ⟨p, hp, e⟩; exact ⟨p, hp, by omega⟩
theorem spec_l00HasE {L : List Int} {n : Int} (hl : L.length <= 100000) : AC Tryz.prog 130 [ints L, .int .i64 n] (.bool (decide (n ∈ L))) := by
  have hle : (List.map (D.int .i64) L).length = L.length := by simp
  refine ac_intro tabIs _ Tryz.func130 rfl rfl Tryz.ntmps130 rfl rfl fun w0 ok0 he0 => ?_
  repeat (first | refine zc ?_ | refine zv ?_)
  refine awp_loop (fun i : Nat => i <= L.length /\ n ∉ L.take i) (fun i => [(0, .d (ints L)), (1, .d (.int .i64 n)), (5, .d (.int .i64 i))]) (fun i => []) (fun i => L.length - i) 0 ⟨by omega, by simp⟩ ?_ rfl ?_
  . exact zs
  . rintro i ⟨hi, hno⟩
    by_cases hlt : i < L.length
    . have hx := el_int hlt
      by_cases he : L[i] = n
      . repeat (first | refine zc ?_ | refine zv ?_)
        refine zt ?_
        rw [decide_eq_true (he ▸ List.getElem_mem hlt)]
      . repeat (first | refine zc ?_ | refine zv ?_)
        refine loop_n (i + 1) ⟨by omega, ?_⟩ ?_ rfl (by omega)
        . rw [List.take_succ_eq_append_getElem hlt]
          simp only [List.mem_append, List.mem_singleton, not_or]
          exact ⟨hno, fun h => he h.symm⟩
        . exact zs
    . have hie : i = L.length := by omega
      subst hie
      rw [List.take_length] at hno
      rw [decide_eq_false hno]
      repeat (first | refine zc ?_ | refine zv ?_)
      refine zt ?_
      rfl
theorem spec_l06Cover {s o : Int} {nx ou : List (List Int)} (m : MV s o nx ou) : AC Tryz.prog 95 [.ptr (mach s o nx ou)] (.tup [ints (ordI (covL nx)), rows (wrd (covL nx))]) := by
  have hs := m.s1
  have hn := m.n1
  have hle : (List.map ints nx).length = nx.length := by simp
  have hlen := fun i => lstC_len m i
  have hokk := fun i => lstC_ok m i
  have hrl := fun l (hl : 0 <= l /\ l < (nx.length : Int)) => tbl_row m.nx hl
  unfold mach
  refine ac_intro tabIs _ Tryz.func95 rfl rfl Tryz.ntmps95 rfl rfl fun w0 ok0 he0 => ?_
  repeat (first | refine v_w (t := 11) ?_ | refine v_w (t := 9) ?_ | refine zc ?_ | refine u_w (t := 9) ?_ | refine u_w (t := 11) ?_ | refine zv ?_)
  refine awp_permTo [(11, .arr 43 1 ((lstC nx 0).map fun p => ints p.2)), (9, .arr 2 1 (ordD (lstC nx 0)))] (by as_aux_lemma => kernel_rfl) ?_
  refine awp_loop (fun i : Nat => i <= 10) (fun i => [(0, .d (.ptr (.agg [.int .i64 s, .int .i64 o, rows nx, rows ou]))), (4, .own 9), (5, .own 11), (6, .d (.int .i64 i))])
    (fun i => [(11, .arr 43 1 ((lstC nx i).map fun p => ints p.2)), (9, .arr 2 1 (ordD (lstC nx i)))]) (fun i => 10 - i) 0 (by omega) ?_ rfl ?_
  . exact zs
  . intro i hi
    have hl := hlen i
    have hlo : (ordD (lstC nx i)).length = (lstC nx i).length := by simp [ordD]
    by_cases hlt : i < (lstC nx i).length
    . have hp : (lstC nx i)[i]? = some (lstC nx i)[i] := List.getElem?_eq_getElem hlt
      have hpm : (lstC nx i)[i] ∈ lstC nx i := List.getElem_mem hlt
      have hnx := lstC_next hp
      have hlo0 := (hokk i).lt _ hpm
      have hwl := (hokk i).wl _ hpm
      have hok := letC_ok m (hokk i) hpm
      have hpre := letC_pre nx (lstC nx i)[i] (lstC nx i)
      generalize (lstC nx i)[i] = p at *
      repeat (first | refine zc ?_ | refine zv ?_)
      refine awp_loop (fun k : Nat => k <= nx.length) (fun k => [(0, .d (.ptr (.agg [.int .i64 s, .int .i64 o, rows nx, rows ou]))), (4, .own 9), (5, .own 11), (6, .d (.int .i64 i)), (7, .d (.int .i64 k))])
        (fun k => [(11, .arr 43 1 ((letC nx p (lstC nx i) k).map fun p => ints p.2)), (9, .arr 2 1 (ordD (letC nx p (lstC nx i) k)))]) (fun k => nx.length - k) 0 (by omega) ?_ rfl ?_
      . exact zs
      . intro k hk
        have hokk2 := hok k hk
        have hlk := hokk2.len hs
        obtain ⟨t, ht⟩ := hpre k
        have hpk : (letC nx p (lstC nx i) k)[i]? = some p := by rw [ht, List.getElem?_append_left hlt]; exact hp
        by_cases hkn : k < nx.length
        . have hst : letC nx p (lstC nx i) (k + 1) = addP (letC nx p (lstC nx i) k) (nxC nx p.1 k) (p.2 ++ [(k : Int)]) := rfl
          obtain ⟨c1, c2, c3⟩ := nxC_ok m (c := p.1) hkn hlo0
          have hiL : i < (letC nx p (lstC nx i) k).length := by rw [ht, List.length_append]; omega
          generalize letC nx p (lstC nx i) k = L at *
          have hlL : (ordD L).length = L.length := by simp [ordD]
          have hlW : (L.map fun p => ints p.2).length = L.length := by simp
          have x1 := el_row2 (xs := nx) (l := (k : Int)) (by omega)
          have hr := hrl (k : Int) (by omega)
          have x2 := el_int2 (ns := row nx (k : Int)) (q := ((p.1 : Nat) : Int)) (by omega)
          have x3 : (ordD L)[(i : Int).toNat]? = some (.int .i64 (p.1 : Nat)) := by rw [Int.toNat_natCast]; simp [ordD, hpk]
          have x4 : (L.map fun p => ints p.2)[(i : Int).toNat]? = some (ints p.2) := by rw [Int.toNat_natCast]; simp [hpk]
          have hat : (row nx (k : Int)).getD ((p.1 : Nat) : Int).toNat 0 = ((nxC nx p.1 k : Nat) : Int) := by rw [c1]; rfl
          rw [hat] at x2
          generalize nxC nx p.1 k = c at *
          have e1 : AC Tryz.prog 130 [.lst (ordD L), .int .i64 c] (.bool (decide (c ∈ L.map (·.1)))) := by
            have := spec_l00HasE (L := ordI L) (n := ((c : Nat) : Int)) (by simp [ordI]; omega)
            rw [show (decide (((c : Nat) : Int) ∈ ordI L)) = decide (c ∈ L.map (·.1)) from decide_eq_decide.2 mem_ordI] at this
            rw [ordD_ints]
            exact this
          by_cases hm : c ∈ L.map (·.1)
          . rw [addP_old hm] at hst
            rw [decide_eq_true hm] at e1
            repeat (first | refine zc ?_ | refine zk (e := by exact e1) (n := ?_) | refine zv ?_)
            refine loop_n (k + 1) (by omega) ?_ ?_ (by omega)
            . exact zs
            . rw [hst]
          . rw [addP_new hm] at hst
            rw [decide_eq_false hm] at e1
            have e2 := spec_l00OwnH (ns := p.2) (by omega)
            repeat (first | refine zc ?_ | refine zk (e := by exact e1) (n := ?_) | refine zv ?_)
            refine hcl [] [(30000, 500)] e2 ?_
            (iterate 2 (refine u_l ?_))
            refine awpL_to rfl (by apply wo_append; (iterate 14 exact rfl); exact elsOk_ints [(k : Int)]; (simp; omega)) ?_
            refine awpL_freeze 500 rfl rfl ?_
            repeat (first | refine zc ?_ | refine zv ?_)
            refine loop_n (k + 1) (by omega) ?_ ?_ (by omega)
            . exact zs
            . rw [hst, List.map_append, show ordD (L ++ [(c, p.2 ++ [(k : Int)])]) = ordD L ++ [.int .i64 (c : Nat)] by simp [ordD]]
              simp only [ints, List.map_cons, List.map_nil, List.map_append]
              rfl
        . have hke : k = nx.length := by omega
          subst hke
          repeat (first | refine zc ?_ | refine zv ?_)
          refine loop_n (i + 1) (by omega) ?_ ?_ (by omega)
          . exact zs
          . rw [hnx]
    . have hce := covL_eq m hi (by omega)
      rw [hce] at hlo hlt ⊢
      repeat (first | refine zc ?_ | refine zv ?_)
      refine zt ?_
      rw [ordD_ints]
      show D.tup [.lst ((ordI (covL nx)).map (.int .i64)), .lst ((covL nx).map fun p => ints p.2)] = _
      rw [show (covL nx).map (fun p => ints p.2) = (wrd (covL nx)).map ints by simp [wrd]]
      rfl
end Go.Proofs.YtfemhnmggobhjaaGreat
namespace Go.Proofs.YtfemhnmggobhjaaGreat
open Go
attribute [local irreducible] awp awpL awpQL awpQ awpM pWalk Qt AC thenQ blockQ loopQ OpTo
set_option linter.unusedVariables false
set_option linter.unusedSimpArgs false
set_option maxHeartbeats 2000000
attribute [local irreducible] HC
def cvW (L : PL) (q : Nat) : List Int := ((L.find? fun p => p.1 == q).map (·.2)).getD []
theorem cvW_at {L : PL} (hn : (L.map (·.1)).Nodup) {j : Nat} {p : Nat × List Int} (hp : L[j]? = some p) : cvW L p.1 = p.2 := by
  induction L generalizing j with
  | nil => simp at hp
  | cons a L ih =>
    simp only [List.map_cons, List.nodup_cons] at hn
    unfold cvW
    rw [List.find?_cons]
    cases j with
    | zero => simp at hp; subst hp; simp
    | succ j =>
      have hp' : L[j]? = some p := by simpa using hp
      have hne : (a.1 == p.1) = false := by
        have : a.1 ≠ p.1 := fun e => hn.1 (e ▸ List.mem_map_of_mem (List.mem_of_getElem? hp'))
        simpa using this
      rw [hne]
      exact ih hn.2 hp'
theorem nodup_all {N : Nat} {l : List Nat} (hn : l.Nodup) (hl : ∀ x ∈ l, x < N) (hlen : N <= l.length) {q : Nat} (hq : q < N) : q ∈ l := by
  refine Classical.byContradiction fun hno => ?_
  have := nodupLe N (q :: l) (List.nodup_cons.2 ⟨hno, hn⟩) fun x hx => by
    rcases List.mem_cons.1 hx with rfl | hx
    . exact hq
    . exact hl x hx
  simp at this
  omega
def stC (L : PL) (n j : Nat) : List D := (List.range n).map fun q => if q ∈ (L.take j).map (·.1) then ints (cvW L q) else .nils
theorem stC_zero (L : PL) (n : Nat) : List.replicate n D.nils = stC L n 0 := by
  apply List.ext_getElem
  . simp [stC]
  . intro i h1 h2; simp [stC]
theorem stC_next {L : PL} (hn : (L.map (·.1)).Nodup) {n j : Nat} {p : Nat × List Int} (hp : L[j]? = some p) : (stC L n j).set p.1 (ints p.2) = stC L n (j + 1) := by
  have hj : j < L.length := by
    rcases Nat.lt_or_ge j L.length with h | h
    . exact h
    . simp [h] at hp
  have hpe : L[j] = p := by rw [List.getElem?_eq_getElem hj] at hp; exact Option.some.inj hp
  apply List.ext_getElem?
  intro i
  rw [List.getElem?_set]
  unfold stC
  rw [List.take_succ_eq_append_getElem hj, hpe]
  by_cases hi : p.1 = i
  . subst hi
    by_cases hin : p.1 < n
    . simp [hin, cvW_at hn hp]
    . simp [hin]
  . rw [if_neg hi]
    by_cases hin : i < n
    . have : ¬ i = p.1 := fun e => hi e.symm
      simp [hin, this]
    . simp [hin]
def cvR (L : PL) (n : Nat) : List (List Int) := (List.range n).map (cvW L)
theorem stC_all {s : Int} {n : Nat} {L : PL} (h : COk s n L) (hl : s.toNat <= L.length) : stC L s.toNat L.length = (cvR L s.toNat).map ints := by
  unfold stC cvR
  rw [List.map_map, List.take_length]
  refine List.map_congr_left fun q hq => ?_
  have hq := List.mem_range.1 hq
  have := nodup_all h.nd (N := s.toNat) (fun x hx => by
    obtain ⟨p, hp, rfl⟩ := List.mem_map.1 hx
    have := h.lt p hp
    omega) (by simpa using hl) hq
  rw [if_pos this]
  rfl
theorem spec_l07Cover {s o : Int} {nx ou : List (List Int)} (m : MV s o nx ou) : AC Tryz.prog 41 [.ptr (mach s o nx ou)] (.tup [rows (if ((covL nx).length : Int) < s then [] else cvR (covL nx) s.toNat), .bool (!decide (((covL nx).length : Int) < s))]) := by
  have hs := m.s1
  have e1 := spec_l06Cover m
  have hok : COk s nx.length (covL nx) := lstC_ok m 10
  have hl := lstC_len m 10
  have hl : (covL nx).length <= 10 := hl
  generalize covL nx = L at *
  have hol : (ordI L).length = L.length := by simp [ordI]
  have hwl : (wrd L).length = L.length := by simp [wrd]
  have hom : (List.map (D.int .i64) (ordI L)).length = L.length := by simp [ordI]
  have hwm : (List.map ints (wrd L)).length = L.length := by simp [wrd]
  unfold mach at *
  by_cases hc : (L.length : Int) < s
  . rw [if_pos hc, decide_eq_true hc]
    refine ac_intro tabIs _ Tryz.func41 rfl rfl Tryz.ntmps41 rfl rfl fun w0 ok0 he0 => ?_
    repeat (first | refine zc ?_ | refine zk (e := by exact e1) (n := ?_) | refine zv ?_)
    refine zt ?_
    rfl
  . rw [if_neg hc, decide_eq_false hc]
    refine ac_intro tabIs _ Tryz.func41 rfl rfl Tryz.ntmps41 rfl rfl fun w0 ok0 he0 => ?_
    repeat (first | refine zc ?_ | refine zk (e := by exact e1) (n := ?_) | refine zv ?_)
    refine awp_loop (fun j : Nat => j <= L.length) (fun j => [(4, .d (ints (ordI L))), (5, .d (rows (wrd L))), (6, .own 25), (7, .d (.int .i64 j))]) (fun j => [(25, .arr 43 1 (stC L s.toNat j))]) (fun j => L.length - j) 0 (by omega) ?_ ?_ ?_
    . exact zs
    . rw [<- stC_zero]; rfl
    . intro j hj
      have hsl : (stC L s.toNat j).length = s.toNat := by simp [stC]
      by_cases hlt : j < L.length
      . have hp : L[j]? = some L[j] := List.getElem?_eq_getElem hlt
        have hst := stC_next hok.nd (n := s.toNat) hp
        have hlo := hok.lt _ (List.getElem_mem hlt)
        have x1 : (List.map (D.int .i64) (ordI L))[(j : Int).toNat]? = some (.int .i64 (L[j].1 : Nat)) := by rw [Int.toNat_natCast]; simp [ordI, hp]
        have x2 : (List.map ints (wrd L))[(j : Int).toNat]? = some (ints L[j].2) := by rw [Int.toNat_natCast]; simp [wrd, hp]
        generalize L[j] = p at *
        repeat (first | refine zc ?_ | refine zv ?_)
        refine loop_n (j + 1) (by omega) ?_ ?_ (by omega)
        . exact zs
        . rw [<- hst]; rfl
      . have hje : j = L.length := by omega
        subst hje
        have hall := stC_all hok (by omega)
        repeat (first | refine zc ?_ | refine zv ?_)
        refine zt ?_
        rw [hall]
        rfl
end Go.Proofs.YtfemhnmggobhjaaGreat
