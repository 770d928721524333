/- The words of the cover are the first ones that lead to the states. No condition. -/
import Derived.Test.YtfemhnmggobhjaaGreatWm
import Derived.Test.YtfemhnmggobhjaaGreatIc
import Derived.Test.YtfemhnmggobhjaaGreatJa
import Derived.Test.YtfemhnmggobhjaaGreatPe
import Derived.Test.YtfemhnmggobhjaaGreatKi
namespace Go.Proofs.YtfemhnmggobhjaaGreat
open Go
attribute [local irreducible] awp awpL awpQL awpQ awpM pWalk Qt AC thenQ blockQ loopQ OpTo
set_option linter.unusedVariables false
set_option linter.unusedSimpArgs false
set_option maxHeartbeats 2000000
attribute [local irreducible] HC HX
theorem cmpL_app : ∀ {u v : List Int} (x y : List Int), u.length = v.length → cmpL u v ≠ 0 → cmpL (u ++ x) (v ++ y) = cmpL u v
  | [], [], _, _, _, h => absurd rfl h
  | [], _ :: _, _, _, h, _ => by simp at h
  | _ :: _, [], _, _, h, _ => by simp at h
  | a :: u, b :: v, x, y, hl, h => by
    show cmpL (a :: (u ++ x)) (b :: (v ++ y)) = _
    rw [cmpL_cons, cmpL_cons]
    rw [cmpL_cons] at h
    by_cases hc : cmpI a b = 0
    . rw [if_pos hc, if_pos hc]
      rw [if_pos hc] at h
      exact cmpL_app x y (by simpa using hl) h
    . rw [if_neg hc, if_neg hc]
theorem cmpL_same : ∀ (w : List Int) (a b : Int), cmpL (w ++ [a]) (w ++ [b]) = cmpI a b
  | [], a, b => by
    show cmpL [a] [b] = _
    rw [cmpL_cons]
    split
    . rename_i h; rw [h]; rfl
    . rfl
  | x :: w, a, b => by
    show cmpL (x :: (w ++ [a])) (x :: (w ++ [b])) = _
    rw [cmpL_cons, if_pos (cmpI_eq.2 rfl), cmpL_same w a b]
theorem ltW_iff {a b : List Int} : ltW a b ↔ a.length < b.length ∨ (a.length = b.length ∧ cmpL a b < 0) := by
  unfold ltW cmpW
  by_cases h : a.length = b.length
  . rw [if_pos (cmpI_eq.2 (by rw [h]))]
    exact ⟨fun k => .inr ⟨h, k⟩, fun k => k.elim (fun e => by omega) fun e => e.2⟩
  . rw [if_neg fun e => h (by have := cmpI_eq.1 e; omega), cmpI_lt]
    exact ⟨fun k => .inl (by omega), fun k => k.elim (fun e => by omega) fun e => absurd e.1 h⟩
theorem ltW_last (w : List Int) {a b : Int} (h : a < b) : ltW (w ++ [a]) (w ++ [b]) := ltW_iff.2 (.inr ⟨by simp, by rw [cmpL_same]; exact cmpI_lt.2 h⟩)
theorem ltW_snoc {u v : List Int} (h : ltW u v) (a b : Int) : ltW (u ++ [a]) (v ++ [b]) := by
  rcases ltW_iff.1 h with h | ⟨h1, h2⟩
  . exact ltW_iff.2 (.inl (by simp; omega))
  . exact ltW_iff.2 (.inr ⟨by simp [h1], by rw [cmpL_app _ _ h1 (by omega)]; exact h2⟩)
theorem ltW_more (w : List Int) (a : Int) : ltW w (w ++ [a]) := ltW_iff.2 (.inl (by simp))
theorem ltW_asymm {a b : List Int} (h : ltW a b) : ¬ ltW b a := fun k => ltW_irrefl a (cmpW_trans h k)
theorem leW_snoc {u v : List Int} (h : ¬ ltW v u) (a : Int) : ¬ ltW (v ++ [a]) (u ++ [a]) := fun k => by
  by_cases e : v = u
  . subst e; exact ltW_irrefl _ k
  . exact ltW_asymm k (ltW_snoc (ltW_of h e) a a)
structure SrtC (L : PL) (c : List Int) : Prop where
  srt : (L.map (·.2)).Pairwise ltW
  lt : ∀ q ∈ L, ltW q.2 c
theorem srtC_add {L : PL} {c c' : List Int} {d : Nat} (h : SrtC L c) (hc : ltW c c') : SrtC (addP L d c) c' := by
  unfold addP
  split
  . exact ⟨h.srt, fun q hq => cmpW_trans (h.lt q hq) hc⟩
  . refine ⟨?_, fun q hq => ?_⟩
    . rw [List.map_append]
      refine List.pairwise_append.2 ⟨h.srt, by simp, fun a ha b hb => ?_⟩
      obtain ⟨q, hq, rfl⟩ := List.mem_map.1 ha
      simp only [List.map_cons, List.map_nil, List.mem_singleton] at hb
      subst hb
      exact h.lt q hq
    . rcases List.mem_append.1 hq with hq | hq
      . exact cmpW_trans (h.lt q hq) hc
      . simp only [List.mem_singleton] at hq; subst hq; exact hc
theorem srtC_let {nx : List (List Int)} {p : Nat × List Int} {L : PL} (h : SrtC L (p.2 ++ [0])) : ∀ x : Nat, SrtC (letC nx p L x) (p.2 ++ [(x : Int)])
  | 0 => h
  | x + 1 => srtC_add (srtC_let h x) (ltW_last _ (by omega))
theorem lstC_srt (nx : List (List Int)) : ∀ i, ((lstC nx i).map (·.2)).Pairwise ltW ∧ ∀ p, (lstC nx i)[i]? = some p → SrtC (lstC nx i) (p.2 ++ [0])
  | 0 => by
    refine ⟨by simp [lstC], fun p hp => ?_⟩
    simp only [lstC, List.getElem?_cons_zero, Option.some.injEq] at hp
    subst hp
    exact ⟨by simp [lstC], fun q hq => by simp only [lstC, List.mem_singleton] at hq; subst hq; exact ltW_more [] 0⟩
  | i + 1 => by
    obtain ⟨h1, h2⟩ := lstC_srt nx i
    cases hp : (lstC nx i)[i]? with
    | none =>
      have : lstC nx (i + 1) = lstC nx i := by conv => lhs; unfold lstC; rw [hp]
      rw [this]
      refine ⟨h1, fun p hp' => ?_⟩
      have hl : (lstC nx i).length ≤ i := by
        rcases Nat.lt_or_ge i (lstC nx i).length with h | h
        . rw [List.getElem?_eq_getElem h] at hp; cases hp
        . exact h
      rw [List.getElem?_eq_none (by omega)] at hp'
      cases hp'
    | some p =>
      rw [lstC_next hp]
      have hS := srtC_let (nx := nx) (h2 p hp) nx.length
      refine ⟨hS.srt, fun p' hp' => ⟨hS.srt, fun q hq => ?_⟩⟩
      obtain ⟨t, ht⟩ := letC_pre nx p (lstC nx i) nx.length
      have hi : i < (lstC nx i).length := by
        rcases Nat.lt_or_ge i (lstC nx i).length with h | h
        . exact h
        . rw [List.getElem?_eq_none h] at hp; cases hp
      have hpi : (letC nx p (lstC nx i) nx.length)[i]? = some p := by rw [ht, List.getElem?_append_left hi]; exact hp
      have hlt : ltW p.2 p'.2 := srt_lt (L := (letC nx p (lstC nx i) nx.length).map (·.2)) hS.srt (i := i) (j := i + 1) (by rw [List.getElem?_map, hpi]; rfl) (by rw [List.getElem?_map, hp']; rfl) (by omega)
      exact cmpW_trans (hS.lt q hq) (ltW_snoc hlt _ _)
theorem covL_at {s o : Int} {nx ou : List (List Int)} (m : MV s o nx ou) {j : Nat} {p : Nat × List Int} (h : (covL nx)[j]? = some p) : (lstC nx j)[j]? = some p ∧ ∃ t, covL nx = lstC nx (j + 1) ++ t := by
  have hj : j < (covL nx).length := by
    rcases Nat.lt_or_ge j (covL nx).length with h' | h'
    . exact h'
    . rw [List.getElem?_eq_none h'] at h; cases h
  have hl : (covL nx).length ≤ 10 := lstC_len m 10
  have hlen : j < (lstC nx j).length := by
    rcases Nat.lt_or_ge j (lstC nx j).length with h' | h'
    . exact h'
    . have := covL_eq m (i := j) (by omega) h'
      rw [this] at h'
      omega
  obtain ⟨t, ht⟩ := lstC_pre nx j (10 - j)
  rw [show j + (10 - j) = 10 by omega] at ht
  obtain ⟨u, hu⟩ := lstC_pre nx (j + 1) (10 - (j + 1))
  rw [show j + 1 + (10 - (j + 1)) = 10 by omega] at hu
  refine ⟨?_, u, hu⟩
  have h : (lstC nx 10)[j]? = some p := h
  rw [ht, List.getElem?_append_left hlen] at h
  exact h
theorem cvW_first {s o : Int} {nx ou : List (List Int)} (m : MV s o nx ou) : ∀ (n : Nat) (v : List Int), v.length = n → LtW nx.length v → ∃ q : Nat, runS nx 0 v = q ∧ q ∈ (covL nx).map (·.1) ∧ ¬ ltW v (cvW (covL nx) q) := by
  have hs := m.s1
  have hok : COk s nx.length (covL nx) := lstC_ok m 10
  intro n
  induction n with
  | zero =>
    intro v hv _
    have : v = [] := List.length_eq_zero_iff.1 hv
    subst this
    refine ⟨0, rfl, ?_, by rw [cvW_zero]; exact ltW_irrefl _⟩
    obtain ⟨t, ht⟩ := lstC_pre nx 0 10
    have : covL nx = [(0, [])] ++ t := ht
    rw [this]
    simp
  | succ n ih =>
    intro v hv hw
    have hne : v ≠ [] := fun e => by subst e; simp at hv
    have hd := List.dropLast_concat_getLast hne
    generalize v.getLast hne = l at hd
    have hl : v.dropLast.length = n := by simp [hv]
    generalize v.dropLast = v' at *
    subst hd
    obtain ⟨q1, r1, m1, n1⟩ := ih v' hl fun a ha => hw a (List.mem_append_left _ ha)
    have hla := hw l (List.mem_append_right _ (List.mem_singleton.2 rfl))
    obtain ⟨p, hp, rfl⟩ := List.mem_map.1 m1
    obtain ⟨j, hj, ej⟩ := List.getElem_of_mem hp
    have hLj : (covL nx)[j]? = some p := by rw [List.getElem?_eq_getElem hj, ej]
    rw [cvW_at hok.nd hLj] at n1
    obtain ⟨hat, t, ht⟩ := covL_at m hLj
    have hps := hok.lt p hp
    obtain ⟨h1, -, -⟩ := nxC_ok m (c := p.1) (x := l.toNat) (by omega) hps
    rw [show ((l.toNat : Nat) : Int) = l by omega] at h1
    have hS := srtC_let (nx := nx) ((lstC_srt nx j).2 p hat) l.toNat
    have key : ∃ u, (nxC nx p.1 l.toNat, u) ∈ letC nx p (lstC nx j) (l.toNat + 1) ∧ ¬ ltW (p.2 ++ [l]) u := by
      show ∃ u, _ ∈ addP (letC nx p (lstC nx j) l.toNat) (nxC nx p.1 l.toNat) (p.2 ++ [((l.toNat : Nat) : Int)]) ∧ _
      rw [show ((l.toNat : Nat) : Int) = l by omega] at hS ⊢
      unfold addP
      split
      . rename_i hm
        obtain ⟨q, hq, e⟩ := List.mem_map.1 hm
        refine ⟨q.2, by rw [← e]; exact hq, ltW_asymm (hS.lt q hq)⟩
      . exact ⟨_, List.mem_append_right _ (List.mem_singleton.2 rfl), ltW_irrefl _⟩
    obtain ⟨u, hu, hun⟩ := key
    have hin : (nxC nx p.1 l.toNat, u) ∈ covL nx := by
      have hpre : ∀ d k, ∃ t, letC nx p (lstC nx j) (k + d) = letC nx p (lstC nx j) k ++ t := by
        intro d
        induction d with
        | zero => exact fun k => ⟨[], by simp⟩
        | succ d ihd =>
          intro k
          obtain ⟨t1, h1⟩ := ihd k
          obtain ⟨t2, h2⟩ := addP_pre (letC nx p (lstC nx j) (k + d)) (nxC nx p.1 (k + d)) (p.2 ++ [((k + d : Nat) : Int)])
          have h3 : letC nx p (lstC nx j) (k + (d + 1)) = addP (letC nx p (lstC nx j) (k + d)) (nxC nx p.1 (k + d)) (p.2 ++ [((k + d : Nat) : Int)]) := rfl
          exact ⟨t1 ++ t2, by rw [h3, h2, h1, List.append_assoc]⟩
      obtain ⟨t2, ht2⟩ := hpre (nx.length - (l.toNat + 1)) (l.toNat + 1)
      rw [show l.toNat + 1 + (nx.length - (l.toNat + 1)) = nx.length by omega] at ht2
      rw [ht, lstC_next hat, ht2]
      exact List.mem_append_left _ (List.mem_append_left _ hu)
    refine ⟨nxC nx p.1 l.toNat, ?_, List.mem_map.2 ⟨_, hin, rfl⟩, ?_⟩
    . rw [runS_append, r1, h1]; rfl
    . obtain ⟨i, hi, ei⟩ := List.getElem_of_mem hin
      rw [cvW_at hok.nd (j := i) (p := (nxC nx p.1 l.toNat, u)) (by rw [List.getElem?_eq_getElem hi, ei])]
      exact fun hlt => leW_snoc n1 l (ltW_le hlt hun)
end Go.Proofs.YtfemhnmggobhjaaGreat
namespace Go.Proofs.YtfemhnmggobhjaaGreat
open Go
attribute [local irreducible] awp awpL awpQL awpQ awpM pWalk Qt AC thenQ blockQ loopQ OpTo
set_option linter.unusedVariables false
set_option linter.unusedSimpArgs false
set_option maxHeartbeats 2000000
attribute [local irreducible] HC HX
theorem slIdx {l : List Int} {q : Int} {k0 : Nat} (hn : l.length ≤ 9223372036854775807) (h0 : k0 < l.length) (hq : l[k0] = q) (hmin : ∀ d, (h : d < k0) → ¬ l[d] = q) : AC Tryz.prog 73 [ints l, .int .i64 q] (.int .i64 k0) := by
  have hle : (List.map (D.int IntKind.i64) l).length = l.length := by simp
  refine ac_intro tabIs _ Tryz.func73 rfl rfl Tryz.ntmps73 rfl rfl fun w0 ok0 => ?_
  repeat (first | refine zc ?_ | refine zv ?_)
  refine awp_loop (fun k : Nat => k ≤ k0) (fun k => [(0, .d (ints l)), (1, .d (.int .i64 q)), (7, .d (.int .i64 l.length)), (8, .d (.int .i64 k))]) (fun _ => []) (fun k => l.length - k) 0 (by omega) ?_ rfl ?_
  . refine ⟨rfl, rfl, ?_, rfl, trivial⟩
    simp [lk, args0]
  . intro k hk
    have hlt : k < l.length := by omega
    have hx := el_int hlt
    by_cases e : k < k0
    . have hne := hmin k e
      have hne2 : ¬ q = l[k] := fun h => hne h.symm
      repeat (first | refine zc ?_ | refine zv ?_)
      refine loop_n (k + 1) (by omega) ?_ rfl (by omega)
      exact zs
    . have : k = k0 := by omega
      subst this
      have he : q = l[k] := hq.symm
      repeat (first | refine zc ?_ | refine zv ?_)
      refine zt ?_
      rfl
theorem slIdx0 {l : List Int} {q : Int} (hn : l.length ≤ 9223372036854775807) (hnot : q ∉ l) : AC Tryz.prog 73 [ints l, .int .i64 q] (.int .i64 (-1)) := by
  have hle : (List.map (D.int IntKind.i64) l).length = l.length := by simp
  refine ac_intro tabIs _ Tryz.func73 rfl rfl Tryz.ntmps73 rfl rfl fun w0 ok0 => ?_
  repeat (first | refine zc ?_ | refine zv ?_)
  refine awp_loop (fun k : Nat => k ≤ l.length) (fun k => [(0, .d (ints l)), (1, .d (.int .i64 q)), (7, .d (.int .i64 l.length)), (8, .d (.int .i64 k))]) (fun _ => []) (fun k => l.length - k) 0 (by omega) ?_ rfl ?_
  . refine ⟨rfl, rfl, ?_, rfl, trivial⟩
    simp [lk, args0]
  . intro k hk
    by_cases hlt : k < l.length
    . have hx := el_int hlt
      have hne2 : ¬ q = l[k] := fun h => hnot (h ▸ List.getElem_mem hlt)
      repeat (first | refine zc ?_ | refine zv ?_)
      refine loop_n (k + 1) (by omega) ?_ rfl (by omega)
      exact zs
    . have : k = l.length := by omega
      subst this
      repeat (first | refine zc ?_ | refine zv ?_)
      refine zt ?_
      rfl
theorem slIdx_ex {l : List Int} (hn : l.length ≤ 1048576) (q : Int) : ∃ r : Int, I64 r ∧ AC Tryz.prog 73 [ints l, .int .i64 q] (.int .i64 r) := by
  by_cases h : q ∈ l
  . obtain ⟨k, hk, hkq⟩ := List.getElem_of_mem h
    obtain ⟨k0, h1, ⟨h2, h3⟩, h4⟩ := firstEx (P := fun k => ∃ hk : k < l.length, l[k] = q) k ⟨hk, hkq⟩
    exact ⟨k0, by unfold I64; omega, slIdx (by omega) h2 h3 fun d hd he => h4 d hd ⟨by omega, he⟩⟩
  . exact ⟨-1, by unfold I64; omega, slIdx0 (by omega) h⟩
section
variable (nx ou : List (List Int)) (ns : List Int) (st : Int → Int)
def pgN (k : Nat) : List Int := ns.map fun q => st (at2 nx k q)
def pgO (k : Nat) : List Int := ns.map fun q => at2 ou k q
def pgX (n : Nat) : List (List Int) := (List.range n).map (pgN nx ns st)
def pgY (n : Nat) : List (List Int) := (List.range n).map (pgO ou ns)
end
theorem impl_pickedG {s o : Int} {nx ou : List (List Int)} (m : MV s o nx ou) {ns : List Int} {st : Int → Int} {g : Nat} {cap : List D} (hns : ns.length ≤ 1000) (hlo : ∀ q ∈ ns, 0 ≤ q ∧ q < s) (hst : ∀ v, 0 ≤ v → v < s → AC Tryz.prog g (.int .i64 v :: cap) (.int .i64 (st v))) :
    HC Tryz.prog 71 [.d (mach s o nx ou), .d (ints ns), .d (.fn g cap)] [] (.agg [.d (.int .i64 ns.length), .d (.int .i64 o), .own 30000, .own 30001])
      [(30000, .rows 43 2 1 (rws (pgX nx ns st nx.length)) none), (30001, .rows 43 2 1 (rws (pgY ou ns nx.length)) none)] := by
  have hs1 := m.s1
  have hn1 := m.n1
  have heq := m.eq
  have hsz := impl_size1 (ns := ns)
  have hm : (List.map (D.int .i64) ns).length = ns.length := by simp
  have mm1 : (List.map ints nx).length = nx.length := by simp
  refine hc_intro tabIs _ Tryz.func71 rfl rfl Tryz.ntmps71 rfl rfl rfl ?_ fun w0 ok0 XM XA anc => ?_
  . exact likeIn_nil
  repeat (first | refine zcn ?_ | refine zv ?_)
  refine u_m [(5, [7]), (6, [7])] (.tk [7] [0, 1, 2, 3, 4] (.tk [] [5, 6] .done)) ?_
  repeat (first | refine zc ?_ | refine zk (e := by exact hsz) (n := ?_) | refine zv ?_)
  refine awp_nilCell 7 2 300 43 1 (by exact rfl) (by exact rfl) rfl rfl rfl ?_
  refine awp_toRows 300 2 1 rfl rfl rfl rfl ?_
  refine awp_nilCell 7 3 301 43 1 (by exact rfl) (by exact rfl) rfl rfl rfl ?_
  refine awp_toRows 301 2 1 rfl rfl rfl rfl ?_
  refine awp_perm [(6, .box [.d (.int .i64 0), .d (.int .i64 0), .d .nils, .d .nils]), (7, .box [.d (.int .i64 ns.length), .d (.int .i64 o), .own 300, .own 301]), (300, .rows 43 2 1 [] none), (301, .rows 43 2 1 [] none)] rfl ?_
  refine awp_loop (fun k : Nat => k ≤ nx.length) (fun k => [(1, .d (ints ns)), (2, .d (.fn g cap)), (3, .d (.ptr (mach s o nx ou))), (6, .ref 6 0), (7, .ref 7 0), (20, .d (.int .i64 nx.length)), (21, .d (.int .i64 k))])
    (fun k => [(6, .box [.d (.int .i64 0), .d (.int .i64 0), .d .nils, .d .nils]), (7, .box [.d (.int .i64 ns.length), .d (.int .i64 o), .own 300, .own 301]), (300, .rows 43 2 1 (rws (pgX nx ns st k)) none), (301, .rows 43 2 1 (rws (pgY ou ns k)) none)]) (fun k => nx.length - k) 0 (by omega) ?_ rfl ?_
  . exact ⟨rfl, rfl, rfl, rfl, rfl, congrArg (fun n : Nat => SV.d (.int .i64 n)) mm1, rfl, trivial⟩
  . intro k hk
    have hrl1 : (rws (pgX nx ns st k)).length = k := by rw [rws_length]; simp [pgX]
    have hrl2 : (rws (pgY ou ns k)).length = k := by rw [rws_length]; simp [pgY]
    by_cases hlt : k < nx.length
    . have hkl : 0 ≤ (k : Int) ∧ (k : Int) < nx.length := by omega
      have hko : 0 ≤ (k : Int) ∧ (k : Int) < ou.length := by omega
      have rl1 : ((row nx k).length : Int) = s := tbl_row m.nx hkl
      have rl2 : ((row ou k).length : Int) = s := tbl_row m.ou hko
      have g1 := el_row2 (xs := nx) hkl
      have g2 := el_row2 (xs := ou) hko
      have t1 : rws (pgX nx ns st (k + 1)) = rws (pgX nx ns st k) ++ [(pgN nx ns st k).map (.int .i64)] := by simp [rws, pgX, List.range_succ]
      have t2 : rws (pgY ou ns (k + 1)) = rws (pgY ou ns k) ++ [(pgO ou ns k).map (.int .i64)] := by simp [rws, pgY, List.range_succ]
      have ll1 : (pgN nx ns st k).length = ns.length := by simp [pgN]
      have ll2 : (pgO ou ns k).length = ns.length := by simp [pgO]
      repeat (first | refine v_w (t := 25) ?_ | refine v_w (t := 24) ?_ | refine zc ?_ | refine u_w (t := 24) ?_ | refine u_w (t := 25) ?_ | refine zv ?_)
      refine awp_loop (fun i : Nat => i ≤ ns.length) (fun i => [(1, .d (ints ns)), (2, .d (.fn g cap)), (3, .d (.ptr (mach s o nx ou))), (6, .ref 6 0), (7, .ref 7 0), (8, .d (.int .i64 k)), (9, .own 24), (10, .own 25), (20, .d (.int .i64 nx.length)), (21, .d (.int .i64 k)), (26, .d (ints ns)), (27, .d (.int .i64 ns.length)), (28, .d (.int .i64 i))])
        (fun i => [(25, .arr 2 1 (((pgO ou ns k).take i).map (.int .i64))), (24, .arr 2 1 (((pgN nx ns st k).take i).map (.int .i64))), (6, .box [.d (.int .i64 0), .d (.int .i64 0), .d .nils, .d .nils]), (7, .box [.d (.int .i64 ns.length), .d (.int .i64 o), .own 300, .own 301]), (300, .rows 43 2 1 (rws (pgX nx ns st k)) none), (301, .rows 43 2 1 (rws (pgY ou ns k)) none)]) (fun i => ns.length - i) 0 (by omega) ?_ rfl ?_
      . exact zs
      . intro i hi
        by_cases hli : i < ns.length
        . have hgi := el_int hli
          have hb := hlo _ (List.getElem_mem hli)
          have y1 := el_int2 (ns := row nx k) (q := ns[i]) (by omega)
          have y2 := el_int2 (ns := row ou k) (q := ns[i]) (by omega)
          have z1 := ints_take (ns := pgN nx ns st k) (k := i) (by omega)
          have z2 := ints_take (ns := pgO ou ns k) (k := i) (by omega)
          rw [show (pgN nx ns st k)[i]'(by omega) = st ((row nx k).getD ns[i].toNat 0) by simp [pgN]; rfl] at z1
          rw [show (pgO ou ns k)[i]'(by omega) = (row ou k).getD ns[i].toNat 0 by simp [pgO]; rfl] at z2
          have l1 : (((pgN nx ns st k).take i).map (D.int .i64)).length = i := by simp; omega
          have l2 : (((pgO ou ns k).take i).map (D.int .i64)).length = i := by simp; omega
          have hat := tbl_at m.nx (l := (k : Int)) (q := ns[i]) (by omega) hb
          have cid := hst ((row nx k).getD ns[i].toNat 0) hat.1 hat.2
          generalize (row nx k).getD ns[i].toNat 0 = av at *
          generalize (row ou k).getD ns[i].toNat 0 = bv at *
          generalize ns[i] = q at *
          repeat (first | refine zcn ?_ | refine zv ?_)
          refine u_m [(12, [24]), (23, [25])] (.tk [] [0, 1, 2, 3, 4, 5, 6, 7, 8, 9, 10, 11, 12] (.tk [24] [13, 14, 15, 16, 17, 18, 19, 20, 21, 22] (.tk [] [23, 24, 25] .done))) ?_
          repeat (first | refine zc ?_ | refine zk (e := by exact cid) (n := ?_) | refine zv ?_)
          refine loop_n (i + 1) (by omega) ?_ ?_ (by omega)
          . exact zs
          . rw [← z1, ← z2]; rfl
        . have hi' : i = ns.length := by omega
          subst hi'
          rw [show (pgN nx ns st k).take ns.length = pgN nx ns st k from List.take_of_length_le (by omega), show (pgO ou ns k).take ns.length = pgO ou ns k from List.take_of_length_le (by omega)]
          repeat (first | refine zcn ?_ | refine zv ?_)
          refine u_mJ [(3, [60, 24]), (4, [60, 300]), (8, [65, 25]), (9, [65, 301]), (11, [7]), (13, [7])]
            (.tk [60, 24, 65, 25] [0, 1] (.tk [65, 25] [2] (.tk [60, 24, 300, 65, 25] [5, 6] (.tk [60, 24, 300] [7] (.fork 3 8 (.fork 4 8 (.tk [60, 24, 300, 65, 25, 301] [8, 9, 10, 11, 12, 13] .done) (.tk [60, 24, 300, 65, 25, 301] [4, 9, 10, 11, 12, 13] .done)) (.tk [60, 24, 300, 65, 25, 301] [3, 4, 9, 10, 11, 12, 13] .done))))))
            [(1, .d (ints ns)), (2, .d (.fn g cap)), (3, .d (.ptr (mach s o nx ou))), (6, .ref 6 0), (7, .ref 7 0), (20, .d (.int .i64 nx.length)), (21, .d (.int .i64 k))]
            [(6, .box [.d (.int .i64 0), .d (.int .i64 0), .d .nils, .d .nils]), (7, .box [.d (.int .i64 ns.length), .d (.int .i64 o), .own 300, .own 301]), (300, .rows 43 2 1 (rws (pgX nx ns st k) ++ [(pgN nx ns st k).map (.int .i64)]) none), (301, .rows 43 2 1 (rws (pgY ou ns k) ++ [(pgO ou ns k).map (.int .i64)]) none)] ?_ ?_
          . repeat (first | refine zc ?_ | refine zv ?_)
            refine m_fork ?_ ?_
            . repeat (first | refine zc ?_ | refine zv ?_)
              refine m_fork ?_ ?_
              . repeat (first | refine zc ?_ | refine zv ?_)
                exact ⟨by exact zs, perm_of_sort rfl⟩
              . repeat (first | refine zc ?_ | refine zv ?_)
                exact ⟨by exact zs, perm_of_sort rfl⟩
            . repeat (first | refine zc ?_ | refine zv ?_)
              exact ⟨by exact zs, perm_of_sort rfl⟩
          . rw [← t1, ← t2]
            repeat (first | refine zc ?_ | refine zv ?_)
            refine loop_n (k + 1) (by omega) ?_ rfl (by omega)
            exact zs
    . have hk' : k = nx.length := by omega
      subst hk'
      repeat (first | refine zc ?_ | refine zv ?_)
      (refine zb ?_; refine u_rH [(300, 30000), (301, 30001)] ?_ ?_)
      . rfl
      . rfl
theorem impl_TrimMachine1 {l : List Int} {v r : Int} (h : AC Tryz.prog 73 [ints l, .int .i64 v] (.int .i64 r)) (hr : I64 r) : AC Tryz.prog 72 [.int .i64 v, .ptr (ints l)] (.int .i64 r) := by
  refine ac_intro tabIs _ Tryz.func72 rfl rfl Tryz.ntmps72 rfl rfl fun w0 ok0 => ?_
  repeat (first | refine zc ?_ | refine zk (e := by exact h) (n := ?_) | refine zv ?_)
  refine zt ?_
  rfl
theorem impl_TrimMachine {s o : Int} {nx ou : List (List Int)} (m : MV s o nx ou) : ∃ nx' ou' : D, AC Tryz.prog 26 [mach s o nx ou] (.tup [.agg [.int .i64 (covL nx).length, .int .i64 o, nx', ou'], .int .i64 0]) := by
  have hs := m.s1
  have hok : COk s nx.length (covL nx) := lstC_ok m 10
  have hl := hok.len hs
  have e1 := impl_ValidMachine (s := s) (o := o) m.rnx m.rou
  rw [machOk_mv m] at e1
  have e2 := impl_firstWords m
  have hlo : ∀ q ∈ ordI (covL nx), 0 ≤ q ∧ q < s := fun q hq => by
    obtain ⟨p, hp, rfl⟩ := List.mem_map.1 hq
    have := hok.lt p hp
    omega
  have hlen : (ordI (covL nx)).length = (covL nx).length := by simp [ordI]
  have hix := fun v => slIdx_ex (l := ordI (covL nx)) (by omega) v
  have e3 := impl_pickedG m (ns := ordI (covL nx)) (st := fun v => (hix v).choose) (g := 72) (cap := [.ptr (ints (ordI (covL nx)))]) (by omega) hlo fun v _ _ => impl_TrimMachine1 (hix v).choose_spec.2 (hix v).choose_spec.1
  generalize (fun v => (hix v).choose) = st at *
  have e4 := ac_of_hc (xs := [mach s o nx ou, ints (ordI (covL nx)), .fn 72 [.ptr (ints (ordI (covL nx)))]]) (d := .agg [.int .i64 (ordI (covL nx)).length, .int .i64 o, .lst ((rws (pgX nx (ordI (covL nx)) st nx.length)).map D.lst), .lst ((rws (pgY ou (ordI (covL nx)) nx.length)).map D.lst)]) e3 rfl
  rw [hlen] at e4
  refine ⟨.lst ((rws (pgX nx (ordI (covL nx)) st nx.length)).map D.lst), .lst ((rws (pgY ou (ordI (covL nx)) nx.length)).map D.lst), ?_⟩
  have hoD : ordD (covL nx) = (ordI (covL nx)).map (.int .i64) := by simp [ordD, ordI]
  rw [hoD] at e2
  clear e3 hix hlo hoD
  generalize covL nx = L at *
  generalize ordI L = I at *
  unfold mach at *
  refine ac_introC tabIs _ Tryz.func26 rfl rfl Tryz.ntmps26 rfl rfl fun w0 ok0 => ?_
  repeat (first | refine zc ?_ | refine zk (e := by exact e1) (n := ?_) | refine zv ?_)
  refine hxl [] [(30000, 500), (30001, 501)] [] e2 (fun n m i h T => ⟨T.len, fun b hb => Nat.le_trans h (T.new b hb), T.nd, T.emp⟩) fun bs T => ?_
  repeat (first | refine zcr ?_ | refine zv ?_)
  refine awp_freeze 500 rfl rfl ?_
  refine awp_freezeB 4 rfl rfl rfl ?_
  repeat (first | refine zc ?_ | refine zk (e := by exact e4) (n := ?_) | refine zv ?_)
  refine ztC ?_
  rfl
end Go.Proofs.YtfemhnmggobhjaaGreat
namespace Go.Proofs.YtfemhnmggobhjaaGreat
open Go
attribute [local irreducible] awp awpL awpQL awpQ awpM pWalk Qt AC thenQ blockQ loopQ OpTo
set_option linter.unusedVariables false
set_option linter.unusedSimpArgs false
set_option maxHeartbeats 2000000
attribute [local irreducible] HC HX
theorem laws_f6beforeC {a b : List Int} (hba : a.length ≤ 1048576) (hbb : b.length ≤ 1048576) : AC Tryz.prog 29 [ints a, ints b] (.bool (decide (cmpW a b < 0))) := by
  have hla : (List.map (D.int IntKind.i64) a).length = a.length := by simp
  have hlb : (List.map (D.int IntKind.i64) b).length = b.length := by simp
  unfold cmpW
  by_cases hl : a.length = b.length
  . rw [if_pos (by rw [hl]; exact cmpI_eq.2 rfl)]
    refine ac_intro tabIs _ Tryz.func29 rfl rfl Tryz.ntmps29 rfl rfl fun w0 ok0 => ?_
    repeat (first | refine zc ?_ | refine zv ?_)
    refine awp_loop (fun k : Nat => k ≤ a.length ∧ LessI a b k) (fun k => [(0, .d (ints a)), (1, .d (ints b)), (5, .d (.int .i64 k))]) (fun _ => []) (fun k => a.length - k) 0 ⟨by omega, ⟨rfl⟩⟩ ?_ rfl ?_
    . exact zs
    . rintro k ⟨hk, ht⟩
      by_cases hlt : k < a.length
      . have hlt2 : k < b.length := by omega
        have ea := el_int hlt
        have eb := el_int hlt2
        have d1 := ht.ne hlt hlt2
        have d2 := ht.eq hlt hlt2
        generalize a[k] = x at *
        generalize b[k] = y at *
        by_cases he : x = y
        . have d2 := d2 he
          repeat (first | refine zc ?_ | refine zv ?_)
          refine loop_n (k + 1) ⟨by omega, d2⟩ ?_ rfl (by omega)
          exact zs
        . repeat (first | refine zc ?_ | refine zv ?_)
          refine zt ?_
          simp only [d1 he]
      . have hke : k = a.length := by omega
        subst hke
        have ht := ht.h
        rw [List.drop_length, hl, List.drop_length] at ht
        rw [← ht]
        clear ht
        repeat (first | refine zc ?_ | refine zv ?_)
        refine zt ?_
        rfl
  . have hne : ¬ cmpI a.length b.length = 0 := fun e => hl (by have := cmpI_eq.1 e; omega)
    rw [if_neg hne]
    have hd : decide (cmpI a.length b.length < 0) = decide ((a.length : Int) < b.length) := by
      by_cases h : (a.length : Int) < b.length
      . rw [decide_eq_true h, decide_eq_true (cmpI_lt.2 h)]
      . rw [decide_eq_false h, decide_eq_false (fun e => h (cmpI_lt.1 e))]
    rw [hd]
    refine ac_intro tabIs _ Tryz.func29 rfl rfl Tryz.ntmps29 rfl rfl fun w0 ok0 => ?_
    repeat (first | refine zc ?_ | refine zv ?_)
    refine zt ?_
    rw [hla, hlb]
def preB (w v : List Int) : Bool := decide (w.length ≤ v.length) && decide (v.take w.length = w)
theorem laws_f6maximal {L ws : List (List Int)} (hn : L.length ≤ 1000) (hn2 : ws.length ≤ 1000) (hl : ∀ w ∈ L, w.length ≤ 1000) (hl2 : ∀ w ∈ ws, w.length ≤ 1000) (hs : L.Pairwise ltW)
    (hp : ∀ (i k : Nat) u v, L[i]? = some u → L[k]? = some v → k ≠ i → preB v u = false) (hc : ∀ w ∈ ws, L.any (fun v => preB w v) = true) : AC Tryz.prog 25 [rows L, rows ws] (.bool true) := by
  have hLm : (List.map ints L).length = L.length := by simp
  have hwm : (List.map ints ws).length = ws.length := by simp
  have hint : ∀ u v : List Int, u.length ≤ 1000 → v.length ≤ 1000 → AC Tryz.prog 65 [.lst ((u.map (D.int .i64)).take (((List.map (D.int .i64) v).length : Nat) : Int).toNat), ints v] (.bool (decide (u.take v.length = v))) := fun u v h1 h2 => by
    have := laws_f6ints (a := u.take v.length) (b := v) (by rw [List.length_take]; omega) (by omega)
    rw [show (List.map (D.int .i64) v).length = v.length by simp, Int.toNat_natCast, ← List.map_take]
    exact this
  refine ac_intro tabIs _ Tryz.func25 rfl rfl Tryz.ntmps25 rfl rfl fun w0 ok0 => ?_
  repeat (first | refine zc ?_ | refine zv ?_)
  refine awp_loop (fun i : Nat => i ≤ L.length) (fun i => [(0, .d (rows L)), (1, .d (rows ws)), (5, .d (.int .i64 i))]) (fun _ => []) (fun i => L.length - i) 0 (Nat.zero_le _) ?_ rfl ?_
  . exact zs
  . intro i hi
    by_cases hil : i < L.length
    . have hx := el_row hil
      have hu := hl _ (List.getElem_mem hil)
      have hget : L[i]? = some L[i] := List.getElem?_eq_getElem hil
      have hp1 := fun k v hv hk => hp i k _ v hget hv hk
      have hprev : 0 < i → ∃ p, (L.map ints)[((i : Int) - 1).toNat]? = some (ints p) ∧ AC Tryz.prog 29 [ints p, ints L[i]] (.bool true) := fun h0 => by
        have hq : i - 1 < L.length := by omega
        refine ⟨L[i - 1], by rw [show ((i : Int) - 1).toNat = i - 1 by omega]; simp [hq], ?_⟩
        have := laws_f6beforeC (a := L[i - 1]) (b := L[i]) (by have := hl _ (List.getElem_mem hq); omega) (by omega)
        rwa [decide_eq_true (show cmpW L[i - 1] L[i] < 0 from List.pairwise_iff_getElem.1 hs (i - 1) i hq hil (by omega))] at this
      generalize L[i] = u at *
      have hum : (List.map (D.int .i64) u).length = u.length := by simp
      have helu := elsOk_ints u
      rcases Nat.eq_zero_or_pos i with hz | hz
      . repeat (first | refine zc ?_ | refine zv ?_ | refine zg ?_)
        refine awp_loop (fun k : Nat => k ≤ L.length) (fun k => [(0, .d (rows L)), (1, .d (rows ws)), (5, .d (.int .i64 i)), (6, .d (.int .i64 k))]) (fun _ => []) (fun k => L.length - k) 0 (Nat.zero_le _) ?_ rfl ?_
        . exact zs
        . intro k hk
          by_cases hkl : k < L.length
          . have hy := el_row hkl
            have hv := hl _ (List.getElem_mem hkl)
            have hgk : L[k]? = some L[k] := List.getElem?_eq_getElem hkl
            have hp2 := hp1 k _ hgk
            generalize L[k] = v at *
            have hvm : (List.map (D.int .i64) v).length = v.length := by simp
            by_cases hki : k = i
            . repeat (first | refine zc ?_ | refine zv ?_ | refine zg ?_)
              refine loop_n (k + 1) (by omega) ?_ rfl (by omega)
              exact zs
            . have hp2 := hp2 hki
              unfold preB at hp2
              have e2 := hint u v hu hv
              by_cases hle : v.length ≤ u.length
              . rw [decide_eq_true hle, Bool.true_and] at hp2
                rw [hp2] at e2
                repeat (first | refine zc ?_ | ((first | apply x_l | apply x_q | apply x_lr | apply x_qr); (focus (first | (apply qa_slice_h; (iterate 8 (focus (first | exact rfl | (first | assumption | omega | (simp; omega) | (simp; done) | rfl))))))); exact rfl) | refine zk (e := by exact e2) (n := ?_) | (apply v_x; (iterate 2 exact rfl); (focus (intro ok0 nw hle; (first | (apply qa_slice_h; (iterate 8 (focus (first | exact rfl | (first | assumption | omega | (simp; omega) | (simp; done) | rfl)))))))); (iterate 2 exact rfl)) | refine zv ?_ | refine zg ?_)
                refine loop_n (k + 1) (by omega) ?_ rfl (by omega)
                exact zs
              . repeat (first | refine zc ?_ | refine zv ?_ | refine zg ?_)
                refine loop_n (k + 1) (by omega) ?_ rfl (by omega)
                exact zs
          . have hke : k = L.length := by omega
            subst hke
            repeat (first | refine zc ?_ | refine zv ?_)
            refine loop_n (i + 1) (by omega) ?_ rfl (by omega)
            exact zs
      . obtain ⟨p, hxp, e1⟩ := hprev hz
        repeat (first | refine zc ?_ | refine zk (e := by exact e1) (n := ?_) | refine zv ?_ | refine zg ?_)
        refine awp_loop (fun k : Nat => k ≤ L.length) (fun k => [(0, .d (rows L)), (1, .d (rows ws)), (5, .d (.int .i64 i)), (6, .d (.int .i64 k))]) (fun _ => []) (fun k => L.length - k) 0 (Nat.zero_le _) ?_ rfl ?_
        . exact zs
        . intro k hk
          by_cases hkl : k < L.length
          . have hy := el_row hkl
            have hv := hl _ (List.getElem_mem hkl)
            have hgk : L[k]? = some L[k] := List.getElem?_eq_getElem hkl
            have hp2 := hp1 k _ hgk
            generalize L[k] = v at *
            have hvm : (List.map (D.int .i64) v).length = v.length := by simp
            by_cases hki : k = i
            . repeat (first | refine zc ?_ | refine zv ?_ | refine zg ?_)
              refine loop_n (k + 1) (by omega) ?_ rfl (by omega)
              exact zs
            . have hp2 := hp2 hki
              unfold preB at hp2
              have e2 := hint u v hu hv
              by_cases hle : v.length ≤ u.length
              . rw [decide_eq_true hle, Bool.true_and] at hp2
                rw [hp2] at e2
                repeat (first | refine zc ?_ | ((first | apply x_l | apply x_q | apply x_lr | apply x_qr); (focus (first | (apply qa_slice_h; (iterate 8 (focus (first | exact rfl | (first | assumption | omega | (simp; omega) | (simp; done) | rfl))))))); exact rfl) | refine zk (e := by exact e2) (n := ?_) | (apply v_x; (iterate 2 exact rfl); (focus (intro ok0 nw hle; (first | (apply qa_slice_h; (iterate 8 (focus (first | exact rfl | (first | assumption | omega | (simp; omega) | (simp; done) | rfl)))))))); (iterate 2 exact rfl)) | refine zv ?_ | refine zg ?_)
                refine loop_n (k + 1) (by omega) ?_ rfl (by omega)
                exact zs
              . repeat (first | refine zc ?_ | refine zv ?_ | refine zg ?_)
                refine loop_n (k + 1) (by omega) ?_ rfl (by omega)
                exact zs
          . have hke : k = L.length := by omega
            subst hke
            repeat (first | refine zc ?_ | refine zv ?_)
            refine loop_n (i + 1) (by omega) ?_ rfl (by omega)
            exact zs
    . have hie : i = L.length := by omega
      subst hie
      repeat (first | refine zc ?_ | refine zv ?_)
      refine awp_loop (fun i : Nat => i ≤ ws.length) (fun i => [(0, .d (rows L)), (1, .d (rows ws)), (7, .d (.int .i64 i))]) (fun _ => []) (fun i => ws.length - i) 0 (Nat.zero_le _) ?_ rfl ?_
      . exact zs
      . intro i hi
        by_cases hil : i < ws.length
        . have hx := el_row hil
          have hu := hl2 _ (List.getElem_mem hil)
          have hc1 := hc _ (List.getElem_mem hil)
          generalize ws[i] = u at *
          have hum : (List.map (D.int .i64) u).length = u.length := by simp
          repeat (first | refine zc ?_ | refine zv ?_)
          refine awp_loop (fun k : Nat => k ≤ L.length) (fun k => [(0, .d (rows L)), (1, .d (rows ws)), (7, .d (.int .i64 i)), (8, .d (.bool ((L.take k).any fun v => preB u v))), (9, .d (.int .i64 k))]) (fun _ => []) (fun k => L.length - k) 0 (Nat.zero_le _) ?_ rfl ?_
          . exact zs
          . intro k hk
            by_cases hkl : k < L.length
            . have hy := el_row hkl
              have hv := hl _ (List.getElem_mem hkl)
              have hnx : (L.take (k + 1)).any (fun v => preB u v) = ((L.take k).any (fun v => preB u v) || preB u L[k]) := by
                rw [List.take_succ_eq_append_getElem hkl, List.any_append]; simp
              generalize L[k] = v at *
              have hvm : (List.map (D.int .i64) v).length = v.length := by simp
              have helv := elsOk_ints v
              have e2 := hint v u hv hu
              have hpb : preB u v = (decide (u.length ≤ v.length) && decide (v.take u.length = u)) := rfl
              obtain ⟨t1, ht1⟩ : ∃ t1, (L.take (k + 1)).any (fun v => preB u v) = t1 := ⟨_, rfl⟩
              rw [ht1] at hnx
              generalize (L.take k).any (fun v => preB u v) = t0 at *
              cases t0 with
              | true =>
                repeat (first | refine zc ?_ | refine zv ?_ | refine zg ?_)
                refine loop_n (k + 1) (by omega) ?_ rfl (by omega)
                rw [ht1, hnx]
                exact zs
              | false =>
                rw [Bool.false_or] at hnx
                by_cases hle : u.length ≤ v.length
                . rw [decide_eq_true hle, Bool.true_and] at hpb
                  repeat (first | refine zc ?_ | ((first | apply x_l | apply x_q | apply x_lr | apply x_qr); (focus (first | (apply qa_slice_h; (iterate 8 (focus (first | exact rfl | (first | assumption | omega | (simp; omega) | (simp; done) | rfl))))))); exact rfl) | refine zk (e := by exact e2) (n := ?_) | (apply v_x; (iterate 2 exact rfl); (focus (intro ok0 nw hle; (first | (apply qa_slice_h; (iterate 8 (focus (first | exact rfl | (first | assumption | omega | (simp; omega) | (simp; done) | rfl)))))))); (iterate 2 exact rfl)) | refine zv ?_ | refine zg ?_)
                  refine loop_n (k + 1) (by omega) ?_ rfl (by omega)
                  rw [ht1, hnx, hpb]
                  exact zs
                . rw [decide_eq_false hle, Bool.false_and] at hpb
                  repeat (first | refine zc ?_ | refine zv ?_ | refine zg ?_)
                  refine loop_n (k + 1) (by omega) ?_ rfl (by omega)
                  rw [ht1, hnx, hpb]
                  exact zs
            . have hke : k = L.length := by omega
              subst hke
              rw [List.take_length, hc1]
              repeat (first | refine zc ?_ | refine zv ?_)
              refine loop_n (i + 1) (by omega) ?_ rfl (by omega)
              exact zs
        . have hie : i = ws.length := by omega
          subst hie
          repeat (first | refine zc ?_ | refine zv ?_)
          refine zt ?_
          rfl
end Go.Proofs.YtfemhnmggobhjaaGreat
namespace Go.Proofs.YtfemhnmggobhjaaGreat
open Go
attribute [local irreducible] awp awpL awpQL awpQ awpM pWalk Qt AC thenQ blockQ loopQ OpTo
set_option linter.unusedVariables false
set_option linter.unusedSimpArgs false
set_option maxHeartbeats 2000000
attribute [local irreducible] HC HX
section
variable {s o : Int} {nx ou ws : List (List Int)}
theorem impl_MaximalWords1 (m : MV s o nx ou) (su : SuOk nx.length ws) : AC Tryz.prog 67 [.ptr (mach s o nx ou), .ptr (rows ws)] (.bool true) := by
  have e1 := impl_isSuite (s := s) (o := o) (nx := nx) (ou := ou) (ws := ws) m.rnx.2 (su.rows (by have := m.n1; omega))
  rw [suiteOk_su su] at e1
  refine ac_intro tabIs _ Tryz.func67 rfl rfl Tryz.ntmps67 rfl rfl fun w0 ok0 => ?_
  repeat (first | refine zc ?_ | refine zk (e := by exact e1) (n := ?_) | refine zv ?_)
  refine zt ?_
  rfl
theorem prW_ok (h : ∀ w ∈ ws, w.length ≤ 1048576) : ∀ p ∈ prW ws, WOk p := fun p hp => by
  obtain ⟨w, hw, rfl⟩ := List.mem_map.1 hp
  exact ⟨D.Le.refl _, rfl, rfl, rfl, h w hw⟩
theorem dstW_pr (xs : List (D × List Int)) (h : ∀ p ∈ xs, p.1 = ints p.2) : (maxD xs).map (·.1) = (maxW (xs.map (·.2))).map ints := by
  rw [← maxD_words, List.map_map]
  exact List.map_congr_left fun p hp => h p (maxD_sub xs p hp)
theorem impl_MaximalWordsV (m : MV s o nx ou) (su : SuOk nx.length ws) : AC Tryz.prog 23 [mach s o nx ou, rows ws] (.tup [rows (maxW ws), .int .i64 0]) := by
  have e1 := impl_code (s := s) (o := o) (g := 67) (cap := [.ptr (mach s o nx ou), .ptr (rows ws)]) m.rnx m.rou fun _ => impl_MaximalWords1 m su
  rw [machOk_mv m] at e1
  have h := impl_maximalH (xs := prW ws) (prW_ok fun w hw => by have := (su.all w hw).1; omega) (by have := su.len; simp [prW]; omega)
  have h1 : (maxD (prW ws)).map (·.1) = (maxW ws).map ints := by
    have := dstW_pr (prW ws) fun p hp => by
      obtain ⟨w, hw, rfl⟩ := List.mem_map.1 hp
      rfl
    rw [this, prW_snd]
  have h2 : (prW ws).map (·.1) = ws.map ints := by simp [prW]
  rw [h1, h2] at h
  have e2 : AC Tryz.prog 57 [rows ws] (rows (maxW ws)) := ac_of_hc (xs := [rows ws]) (d := rows (maxW ws)) h rfl
  refine ac_intro tabIs _ Tryz.func23 rfl rfl Tryz.ntmps23 rfl rfl fun w0 ok0 => ?_
  repeat (first | refine zc ?_ | refine zk (e := by exact e1) (n := ?_) | refine zk (e := by exact e2) (n := ?_) | refine zv ?_)
  refine zt ?_
  rfl
theorem spec_MaximalWordsV (m : MV s o nx ou) (su : SuOk nx.length ws) : AC Tryz.prog 24 [mach s o nx ou, rows ws] (.tup [rows (maxW ws), .int .i64 0]) := by
  have e1 := spec_l07Given (s := s) (o := o) m.rnx m.rou (su.rows (by have := m.n1; omega))
  rw [machOk_mv m, suiteOk_su su] at e1
  have e2 := spec_l07Maximal (ws := ws) (by have := su.len; omega) fun w hw => by have := (su.all w hw).1; omega
  unfold mach at *
  refine ac_intro tabIs _ Tryz.func24 rfl rfl Tryz.ntmps24 rfl rfl fun w0 ok0 => ?_
  repeat (first | refine zc ?_ | refine zk (e := by exact e1) (n := ?_) | refine zk (e := by exact e2) (n := ?_) | refine zv ?_)
  refine zt ?_
  rfl
theorem impl_StateCoverA (h1 : RowsOk nx) (h2 : RowsOk ou) : AC Tryz.prog 17 [mach s o nx ou] (.tup [rows (scD s o nx ou).1, .int .i64 (scD s o nx ou).2]) := by
  have := ac_of_hc (xs := [mach s o nx ou]) (d := .tup [.lst ((rws (scD s o nx ou).1).map D.lst), .int .i64 (scD s o nx ou).2]) (impl_StateCover h1 h2) rfl
  rw [rws_dat] at this
  exact this
theorem impl_TransitionCoverA (h1 : RowsOk nx) (h2 : RowsOk ou) : AC Tryz.prog 19 [mach s o nx ou] (.tup [rows (trD s o nx ou).1, .int .i64 (trD s o nx ou).2]) := by
  have := ac_of_hc (xs := [mach s o nx ou]) (d := .tup [.lst ((rws (trD s o nx ou).1).map D.lst), .int .i64 (trD s o nx ou).2]) (impl_TransitionCover h1 h2) rfl
  rw [rws_dat] at this
  exact this
theorem spec_P6WordA {code : List Int} {L most : Int} (hb : BytesOk code) (hL : 1 ≤ L ∧ L ≤ 100) (hm : 0 ≤ most ∧ most ≤ 100) : ∃ v : List Int, v.length ≤ most.toNat ∧ (∀ l ∈ v, 0 ≤ l ∧ l < L) ∧ AC Tryz.prog 27 [u8s code, .int .i64 L, .int .i64 most] (ints v) := by
  have hr := pick_range (s := ⟨0, 0⟩) (n := most + 1) hb (by omega)
  refine ⟨_, ?_, psW_el (s := pickS code (most + 1) ⟨0, 0⟩) hb hL.1 (pickV code (most + 1) ⟨0, 0⟩).toNat, ac_of_hc (xs := [u8s code, .int .i64 L, .int .i64 most]) (spec_P6WordH hb hL hm) rfl⟩
  rw [psW_len]
  omega
end
theorem law_FnCovers {code more : List Int} (hb : BytesOk code) (hb2 : BytesOk more) : AC Tryz.prog 4 [u8s code, u8s more] (.bool true) := by
  have g1 := laws_f6big (code := code)
  have g2 := laws_f6big (code := more)
  by_cases c1 : (4096 : Int) < code.length
  . rw [decide_eq_true c1] at g1
    refine ac_intro tabIs _ Tryz.func4 rfl rfl Tryz.ntmps4 rfl rfl fun w0 ok0 => ?_
    repeat (first | refine zc ?_ | refine zk (e := by exact g1) (n := ?_) | refine zv ?_)
    refine zt ?_
    rfl
  rw [decide_eq_false c1] at g1
  by_cases c2 : (4096 : Int) < more.length
  . rw [decide_eq_true c2] at g2
    refine ac_intro tabIs _ Tryz.func4 rfl rfl Tryz.ntmps4 rfl rfl fun w0 ok0 => ?_
    repeat (first | refine zc ?_ | refine zk (e := by exact g1) (n := ?_) | refine zk (e := by exact g2) (n := ?_) | refine zv ?_)
    refine zt ?_
    rfl
  rw [decide_eq_false c2] at g2
  obtain ⟨s, o, nx, ou, m, hs5, p1⟩ := spec_P6Good (most := 5) hb (by omega)
  have hn := m.n1
  have hs := m.s1
  have hle : (List.map ints nx).length = nx.length := by simp
  have p2 := impl_StateCoverA (s := s) (o := o) m.rnx m.rou
  have p3 := spec_StateCover (s := s) (o := o) m.rnx m.rou
  have p4 := impl_TransitionCoverA (s := s) (o := o) m.rnx m.rou
  have p5 := spec_TransitionCover (s := s) (o := o) m.rnx m.rou
  have p6 := spec_P6Suite (code := more) (s := s) (o := o) (nx := nx) (ou := ou) hb2 (by omega)
  have su := su_psM (n := nx.length) hb2 (by omega)
  generalize psM more nx.length = ws at *
  have p7 := impl_MaximalWordsV m su
  have p8 := spec_MaximalWordsV m su
  have hmem : ∀ w ∈ maxW ws, w ∈ ws := fun w hw => (List.mem_filter.1 (uniqW_mem.1 hw)).1
  have hml : (maxW ws).length ≤ 400 := by
    have h1 := uniqW_len (ws.filter fun v => !ws.any fun w => begB v w)
    have h2 := List.length_filter_le (fun v => !ws.any fun w => begB v w) ws
    have := su.len
    show (uniqW _).length ≤ _
    omega
  have p9 := laws_f6maximal (L := maxW ws) (ws := ws) (by omega) (by have := su.len; omega) (fun w hw => by have := (su.all w (hmem w hw)).1; omega) (fun w hw => by have := (su.all w hw).1; omega) (uniqW_sorted _) (fun i k u v hi hk hne => by
    cases hp : preB v u with
    | false => rfl
    | true =>
      exfalso
      unfold preB at hp
      rw [Bool.and_eq_true, decide_eq_true_eq, decide_eq_true_eq] at hp
      have hu := hmem u (List.mem_of_getElem? hi)
      have hv := (List.mem_filter.1 (uniqW_mem.1 (List.mem_of_getElem? hk))).2
      rcases Nat.lt_or_ge v.length u.length with h | h
      . have : (ws.any fun x => begB v x) = true := List.any_eq_true.2 ⟨u, hu, by unfold begB; rw [decide_eq_true h, decide_eq_true hp.2.symm]; rfl⟩
        rw [this] at hv
        cases hv
      . have e : u = v := by have := hp.2; rwa [List.take_of_length_le (by omega)] at this
        subst e
        rcases Nat.lt_trichotomy i k with h' | h' | h'
        . exact ltW_irrefl u (srt_lt (uniqW_sorted _) hi hk h')
        . exact hne h'.symm
        . exact ltW_irrefl u (srt_lt (uniqW_sorted _) hk hi h')) (fun w hw => by
    obtain ⟨v, hv, h1, h2⟩ := max_all hw
    exact List.any_eq_true.2 ⟨v, hv, by unfold preB; rw [decide_eq_true h1, decide_eq_true h2.symm]; rfl⟩)
  have sz := scD_len (s := s) (o := o) (nx := nx) (ou := ou)
  have tz := trD_len (s := s) (o := o) (nx := nx) (ou := ou)
  have q1 := laws_f6rows sz.2.2 sz.2.2
  rw [decide_eq_true rfl] at q1
  have q2 := laws_f6rows tz.2.2 tz.2.2
  rw [decide_eq_true rfl] at q2
  have rm : RowsOk (maxW ws) := ⟨fun w hw => ((su.rows (by omega)).1 w (hmem w hw)), by omega⟩
  have q3 := laws_f6rows rm rm
  rw [decide_eq_true rfl] at q3
  generalize maxW ws = mx at *
  by_cases hc : ((covL nx).length : Int) < s
  . have e1 : scD s o nx ou = ([], 4) := by unfold scD; rw [if_pos (machOk_mv m), if_pos hc]
    have e2 : trD s o nx ou = ([], 4) := by unfold trD; rw [if_pos (machOk_mv m), if_pos hc]
    rw [e1] at p2 p3 q1
    rw [e2] at p4 p5 q2
    obtain ⟨nx', ou', pT⟩ := impl_TrimMachine m
    refine ac_intro tabIs _ Tryz.func4 rfl rfl Tryz.ntmps4 rfl rfl fun w0 ok0 => ?_
    repeat (first | refine zc ?_ | refine zk (e := by exact g1) (n := ?_) | refine zk (e := by exact g2) (n := ?_) | refine zk (e := by exact p1) (n := ?_) | refine zk (e := by exact p2) (n := ?_) | refine zk (e := by exact p3) (n := ?_) | refine zk (e := by exact p4) (n := ?_) | refine zk (e := by exact p5) (n := ?_) | refine zk (e := by exact q1) (n := ?_) | refine zk (e := by exact q2) (n := ?_) | refine zk (e := by exact p6) (n := ?_) | refine zk (e := by exact p7) (n := ?_) | refine zk (e := by exact p8) (n := ?_) | refine zk (e := by exact q3) (n := ?_) | refine zk (e := by exact p9) (n := ?_) | refine zk (e := by exact pT) (n := ?_) | refine zv ?_)
    refine zt ?_
    rw [decide_eq_true hc]
  . have e1 : scD s o nx ou = (cvR (covL nx) s.toNat, 0) := by unfold scD; rw [if_pos (machOk_mv m), if_neg hc]
    have e2 : trD s o nx ou = (uniqW (trP nx.length (cvR (covL nx) s.toNat)), 0) := by unfold trD; rw [if_pos (machOk_mv m), if_neg hc]
    rw [e1] at p2 p3 q1 sz
    rw [e2] at p4 p5 q2 tz
    dsimp only at p2 p3 q1 sz p4 p5 q2 tz
    have hC : (cvR (covL nx) s.toNat).length = s.toNat := by simp [cvR]
    have hCm : (List.map ints (cvR (covL nx) s.toNat)).length = s.toNat := by simp [cvR]
    have hat : ∀ t : Nat, (t : Int) < s → ((cvR (covL nx) s.toNat).map ints)[(t : Int).toNat]? = some (ints (cvW (covL nx) t)) := fun t ht => by
      rw [Int.toNat_natCast]
      simp [cvR, show t < s.toNat by omega]
    have hfac := fun t ht => cvW_facts m hc (q := t) ht
    have hin1 : ∀ (t : Nat) x, (t : Int) < s → x ∈ trU nx.length → cvW (covL nx) t ++ x ∈ uniqW (trP nx.length (cvR (covL nx) s.toNat)) := fun t x ht hx => uniqW_mem.2 (crsW_mem.2 ⟨_, (hfac t ht).2.2, x, hx, rfl⟩)
    have hwl : ∀ t : Nat, (t : Int) < s → (cvW (covL nx) t).length ≤ 10 := fun t ht => ((cvR_len m).2 _ (hfac t ht).2.2).1
    have hO := fun (t : Nat) (ht : (t : Int) < s) => impl_OutputsOf m (q := 0) (w := cvW (covL nx) t) (by omega) (by have := hwl t ht; omega) (hfac t ht).2.1
    have hf := fun (w : List Int) (hw : w.length ≤ 1000) => laws_f6in (ws := uniqW (trP nx.length (cvR (covL nx) s.toNat))) (w := w) tz.2.2 (by omega)
    obtain ⟨v, hv1, hv2, pW⟩ := spec_P6WordA (code := more) (L := ((List.map ints nx).length : Int)) (most := 6) hb2 (by rw [hle]; omega) (by omega)
    rw [hle] at hv2
    have pO := impl_OutputsOf m (q := 0) (w := v) (by omega) (by omega) hv2
    obtain ⟨q, r1, mq, nq⟩ := cvW_first m v.length v rfl hv2
    have hqs : (q : Int) < s := by
      have hok : COk s nx.length (covL nx) := lstC_ok m 10
      obtain ⟨p, hp, rfl⟩ := List.mem_map.1 mq
      exact hok.lt p hp
    rw [r1] at pO
    have hxq := hat q hqs
    have pB := laws_f6beforeC (a := v) (b := cvW (covL nx) q) (by omega) (by have := hwl q hqs; omega)
    rw [decide_eq_false (show ¬ cmpW v (cvW (covL nx) q) < 0 from nq)] at pB
    generalize cvW (covL nx) q = wq at *
    generalize runO nx ou 0 v = ro at *
    clear nq mq r1
    have hr1 : ∀ t : Nat, (t : Int) < s → AC Tryz.prog 28 [mach s o nx ou, .int .i64 0, ints (cvW (covL nx) t)] (.tup [ints (runO nx ou 0 (cvW (covL nx) t)), .int .i64 t, .int .i64 0]) := fun t ht => by
      have := hO t ht
      rwa [(hfac t ht).1] at this
    have hi0 : ∀ t : Nat, (t : Int) < s → AC Tryz.prog 30 [rows (uniqW (trP nx.length (cvR (covL nx) s.toNat))), ints (cvW (covL nx) t)] (.bool true) := fun t ht => by
      have := hf (cvW (covL nx) t) (by have := hwl t ht; omega)
      rwa [decide_eq_true (by have := hin1 t [] ht (by rw [trU_is]; exact List.mem_cons_self ..); rwa [List.append_nil] at this)] at this
    have hi1 : ∀ (t k : Nat), (t : Int) < s → k < nx.length → AC Tryz.prog 30 [rows (uniqW (trP nx.length (cvR (covL nx) s.toNat))), .lst ((cvW (covL nx) t).map (.int .i64) ++ [.int .i64 k])] (.bool true) := fun t k ht hk => by
      have := hf (cvW (covL nx) t ++ [(k : Int)]) (by have := hwl t ht; rw [List.length_append]; simp; omega)
      rw [decide_eq_true (hin1 t [(k : Int)] ht (by rw [trU_is]; exact List.mem_cons_of_mem _ (List.mem_map.2 ⟨k, List.mem_range.2 hk, rfl⟩)))] at this
      rwa [show ints (cvW (covL nx) t ++ [(k : Int)]) = .lst ((cvW (covL nx) t).map (.int .i64) ++ [.int .i64 k]) by simp [ints]] at this
    clear hO hf hin1 hfac e1 e2 sz tz
    generalize uniqW (trP nx.length (cvR (covL nx) s.toNat)) = due at *
    generalize cvR (covL nx) s.toNat = C at *
    generalize cvW (covL nx) = W at *
    unfold mach at *
    refine ac_intro tabIs _ Tryz.func4 rfl rfl Tryz.ntmps4 rfl rfl fun w0 ok0 => ?_
    repeat (first | refine zc ?_ | refine zk (e := by exact g1) (n := ?_) | refine zk (e := by exact g2) (n := ?_) | refine zk (e := by exact p1) (n := ?_) | refine zk (e := by exact p2) (n := ?_) | refine zk (e := by exact p3) (n := ?_) | refine zk (e := by exact p4) (n := ?_) | refine zk (e := by exact p5) (n := ?_) | refine zk (e := by exact q1) (n := ?_) | refine zk (e := by exact q2) (n := ?_) | refine zk (e := by exact p6) (n := ?_) | refine zk (e := by exact p7) (n := ?_) | refine zk (e := by exact p8) (n := ?_) | refine zk (e := by exact q3) (n := ?_) | refine zk (e := by exact p9) (n := ?_) | refine zk (e := by exact pW) (n := ?_) | refine zk (e := by exact pO) (n := ?_) | refine zk (e := by exact pB) (n := ?_) | refine zv ?_ | refine zg ?_)
    refine awp_loop (fun t : Nat => (t : Int) ≤ s) (fun t => [(5, .ref 5 0), (8, .d (rows C)), (12, .d (rows due)), (25, .d (.int .i64 t))]) (fun _ => [(5, .box [.d (.int .i64 s), .d (.int .i64 o), .d (rows nx), .d (rows ou)])]) (fun t => s.toNat - t) 0 (by omega) ?_ rfl ?_
    . exact zs
    . intro t ht
      by_cases htl : (t : Int) < s
      . have hx := hat t htl
        have r1 := hr1 t htl
        have r2 := hi0 t htl
        have r3 := fun k hk => hi1 t k htl hk
        have hwt := hwl t htl
        generalize W t = w at *
        generalize runO nx ou 0 w = rw0 at *
        repeat (first | refine zc ?_ | refine zk (e := by exact r1) (n := ?_) | refine zk (e := by exact r2) (n := ?_) | refine zv ?_ | refine zg ?_)
        refine awp_loop (fun k : Nat => k ≤ nx.length) (fun k => [(5, .ref 5 0), (8, .d (rows C)), (12, .d (rows due)), (25, .d (.int .i64 t)), (29, .d (.int .i64 k))]) (fun _ => [(5, .box [.d (.int .i64 s), .d (.int .i64 o), .d (rows nx), .d (rows ou)])]) (fun k => nx.length - k) 0 (by omega) ?_ rfl ?_
        . exact zs
        . intro k hk
          by_cases hkl : k < nx.length
          . have r4 := r3 k hkl
            repeat (first | refine v_w (t := 208) ?_ | refine zc ?_ | refine u_w (t := 208) ?_ | refine zv ?_)
            (apply lto; (focus (apply wo_append; (iterate 14 exact rfl); exact elsOk_ints w; (simp; omega))))
            repeat (first | refine zcr ?_ | refine zk (e := by exact r4) (n := ?_) | refine zv ?_)
            refine awp_freeze 208 rfl rfl ?_
            repeat (first | refine zc ?_ | refine zv ?_)
            refine loop_n (k + 1) (by omega) ?_ rfl (by omega)
            exact zs
          . have hke : k = nx.length := by omega
            subst hke
            repeat (first | refine zc ?_ | refine zv ?_)
            refine loop_n (t + 1) (by omega) ?_ rfl (by omega)
            exact zs
      . have hte : t = s.toNat := by omega
        subst hte
        repeat (first | refine zc ?_ | refine zv ?_)
        refine zt ?_
        rfl
end Go.Proofs.YtfemhnmggobhjaaGreat
