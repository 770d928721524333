/- The search for a word that tells two machines apart: plain facts. No condition. -/
import Derived.Test.YtfemhnmggobhjaaGreatNg
import Derived.Test.YtfemhnmggobhjaaGreatFwV
import Derived.Test.YtfemhnmggobhjaaGreatFy
import Derived.Test.YtfemhnmggobhjaaGreatNh
namespace Go.Proofs.YtfemhnmggobhjaaGreat
open Go
attribute [local irreducible] awp awpL awpQL awpQ awpM pWalk Qt AC thenQ blockQ loopQ OpTo
set_option linter.unusedVariables false
set_option linter.unusedSimpArgs false
set_option maxHeartbeats 2000000
attribute [local irreducible] HC
theorem firstEx {P : Nat -> Prop} : ∀ k, P k -> ∃ D, D <= k /\ P D /\ ∀ d, d < D -> ¬ P d := fun k => by
  induction k using Nat.strongRecOn with
  | _ k ih =>
    intro h
    by_cases he : ∃ d, d < k /\ P d
    . obtain ⟨d, hd, hp⟩ := he
      obtain ⟨D, h1, h2⟩ := ih d hd hp
      exact ⟨D, by omega, h2⟩
    . exact ⟨k, Nat.le_refl _, h, fun d hd hp => he ⟨d, hd, hp⟩⟩
theorem nodupLe : ∀ (N : Nat) (l : List Nat), l.Nodup -> (∀ x ∈ l, x < N) -> l.length <= N
  | 0, l, _, h => by
    cases l with
    | nil => simp
    | cons a l => have := h a (List.mem_cons_self ..); omega
  | N + 1, l, hn, h => by
    have h1 := nodupLe N (l.erase N) (hn.erase N) fun x hx => by
      have := hn.mem_erase_iff.1 hx
      have := h x this.2
      omega
    have := List.length_erase (a := N) (l := l)
    split at this <;> omega
abbrev PL := List (Nat × List Int)
def nxP (nx nx' : List (List Int)) (c x : Nat) : Nat := (at2 nx x (c / 16 : Nat)).toNat * 16 + (at2 nx' x (c % 16 : Nat)).toNat
def difP (ou ou' : List (List Int)) (c x : Nat) : Bool := decide (¬ at2 ou x (c / 16 : Nat) = at2 ou' x (c % 16 : Nat))
def addP (L : PL) (c : Nat) (w : List Int) : PL := if c ∈ L.map (·.1) then L else L ++ [(c, w)]
def letP (nx nx' : List (List Int)) (p : Nat × List Int) (L : PL) : Nat -> PL
  | 0 => L
  | x + 1 => addP (letP nx nx' p L x) (nxP nx nx' p.1 x) (p.2 ++ [(x : Int)])
def lstP (nx nx' : List (List Int)) : Nat -> PL
  | 0 => [(0, [])]
  | i + 1 => match (lstP nx nx' i)[i]? with
    | some p => letP nx nx' p (lstP nx nx' i) nx.length
    | none => lstP nx nx' i
structure POk (s s' : Int) (L : PL) : Prop where
  nd : (L.map (·.1)).Nodup
  lt : ∀ p ∈ L, ((p.1 / 16 : Nat) : Int) < s /\ ((p.1 % 16 : Nat) : Int) < s'
  wl : ∀ p ∈ L, p.2.length < L.length
theorem POk.len {s s' : Int} {L : PL} (hs : s <= 10) (hs' : s' <= 10) (h : POk s s' L) : L.length <= 160 := by
  have := nodupLe 160 (L.map (·.1)) h.nd fun x hx => by
    obtain ⟨p, hp, rfl⟩ := List.mem_map.1 hx
    have := h.lt p hp
    omega
  simpa using this
theorem addP_pre (L : PL) (c : Nat) (w : List Int) : ∃ t, addP L c w = L ++ t := by
  unfold addP
  split
  . exact ⟨[], by simp⟩
  . exact ⟨_, rfl⟩
theorem addP_ok {s s' : Int} {L : PL} {c : Nat} {w : List Int} (h : POk s s' L) (hc : ((c / 16 : Nat) : Int) < s /\ ((c % 16 : Nat) : Int) < s') (hw : w.length <= L.length) : POk s s' (addP L c w) := by
  unfold addP
  split
  . exact h
  . rename_i hn
    refine ⟨?_, fun p hp => ?_, fun p hp => ?_⟩
    . rw [List.map_append]
      refine List.nodup_append.2 ⟨h.nd, by simp, fun a ha b hb => ?_⟩
      simp only [List.map_cons, List.map_nil, List.mem_singleton] at hb
      subst hb
      exact fun e => hn (e ▸ ha)
    . rcases List.mem_append.1 hp with h1 | h1
      . exact h.lt p h1
      . simp only [List.mem_singleton] at h1
        subst h1
        exact hc
    . rw [List.length_append]
      rcases List.mem_append.1 hp with h1 | h1
      . have := h.wl p h1
        simp only [List.length_singleton]
        omega
      . simp only [List.mem_singleton] at h1
        subst h1
        simp only [List.length_singleton]
        show w.length < _
        omega
theorem letP_pre (nx nx' : List (List Int)) (p : Nat × List Int) (L : PL) : ∀ k, ∃ t, letP nx nx' p L k = L ++ t
  | 0 => ⟨[], by simp [letP]⟩
  | k + 1 => by
    obtain ⟨t, ht⟩ := letP_pre nx nx' p L k
    obtain ⟨u, hu⟩ := addP_pre (letP nx nx' p L k) (nxP nx nx' p.1 k) (p.2 ++ [(k : Int)])
    exact ⟨t ++ u, by show addP _ _ _ = _; rw [hu, ht, List.append_assoc]⟩
section
variable {s o s' o' : Int} {nx ou nx' ou' : List (List Int)}
theorem nxP_ok (m : MV s o nx ou) (m' : MV s' o' nx' ou') (he : nx'.length = nx.length) {c x : Nat} (hx : x < nx.length) (hc : ((c / 16 : Nat) : Int) < s /\ ((c % 16 : Nat) : Int) < s') :
    ((nxP nx nx' c x / 16 : Nat) : Int) = at2 nx x (c / 16 : Nat) /\ ((nxP nx nx' c x % 16 : Nat) : Int) = at2 nx' x (c % 16 : Nat) /\ (0 <= at2 nx x (c / 16 : Nat) /\ at2 nx x (c / 16 : Nat) < s) /\ 0 <= at2 nx' x (c % 16 : Nat) /\ at2 nx' x (c % 16 : Nat) < s' := by
  have h1 := tbl_at m.nx (l := (x : Int)) (q := ((c / 16 : Nat) : Int)) (by omega) (by omega)
  have h2 := tbl_at m'.nx (l := (x : Int)) (q := ((c % 16 : Nat) : Int)) (by omega) (by omega)
  have hs := m'.s1
  unfold nxP
  generalize at2 nx x (c / 16 : Nat) = a at *
  generalize at2 nx' x (c % 16 : Nat) = b at *
  omega
theorem letP_ok (m : MV s o nx ou) (m' : MV s' o' nx' ou') (he : nx'.length = nx.length) {p : Nat × List Int} {L : PL} (h : POk s s' L) (hp : p ∈ L) : ∀ k, k <= nx.length -> POk s s' (letP nx nx' p L k)
  | 0, _ => h
  | k + 1, hk => by
    have ih := letP_ok m m' he h hp k (by omega)
    obtain ⟨h1, h2, h3, h4⟩ := nxP_ok m m' he (c := p.1) (x := k) (by omega) (h.lt p hp)
    obtain ⟨t, ht⟩ := letP_pre nx nx' p L k
    have hw := h.wl p hp
    refine addP_ok ih (by omega) ?_
    rw [ht, List.length_append, List.length_append]
    simp only [List.length_singleton]
    omega
theorem lstP_ok (m : MV s o nx ou) (m' : MV s' o' nx' ou') (he : nx'.length = nx.length) : ∀ i, POk s s' (lstP nx nx' i)
  | 0 => by
    have h1 := m.s1
    have h2 := m'.s1
    refine ⟨by simp [lstP], fun p hp => ?_, fun p hp => ?_⟩
    . simp only [lstP, List.mem_singleton] at hp; subst hp; simp; omega
    . simp only [lstP, List.mem_singleton] at hp; subst hp; simp [lstP]
  | i + 1 => by
    have ih := lstP_ok m m' he i
    unfold lstP
    split
    . rename_i p hp
      exact letP_ok m m' he ih (List.mem_of_getElem? hp) nx.length (Nat.le_refl _)
    . exact ih
structure Srch (nx ou nx' ou' : List (List Int)) (I : Nat) (R : List Int × Bool) : Prop where
  old : ∀ i, i < I -> ∃ p, (lstP nx nx' i)[i]? = some p /\ ∀ x, x < nx.length -> difP ou ou' p.1 x = false
  fin : ((lstP nx nx' I).length <= I /\ R = ([], false)) \/ ∃ p x0, (lstP nx nx' I)[I]? = some p /\ x0 < nx.length /\ difP ou ou' p.1 x0 = true /\ (∀ x, x < x0 -> difP ou ou' p.1 x = false) /\ R = (p.2 ++ [(x0 : Int)], true)
theorem srch_ex (m : MV s o nx ou) (m' : MV s' o' nx' ou') (he : nx'.length = nx.length) : ∃ I R, I <= 160 /\ Srch nx ou nx' ou' I R := by
  have hl := fun i => (lstP_ok m m' he i).len m.s1.2 m'.s1.2
  obtain ⟨I, h1, h2, h3⟩ := firstEx (P := fun i => ∀ p, (lstP nx nx' i)[i]? = some p -> ∃ x, x < nx.length /\ difP ou ou' p.1 x = true) 160 fun p hp => by
    rw [List.getElem?_eq_none (hl 160)] at hp
    cases hp
  have hold : ∀ i, i < I -> ∃ p, (lstP nx nx' i)[i]? = some p /\ ∀ x, x < nx.length -> difP ou ou' p.1 x = false := fun i hi => by
    have hn := h3 i hi
    cases hp : (lstP nx nx' i)[i]? with
    | none => exact absurd (fun p hp' => by rw [hp] at hp'; cases hp') hn
    | some p =>
      refine ⟨p, rfl, fun x hx => ?_⟩
      cases hd : difP ou ou' p.1 x with
      | false => rfl
      | true => exact absurd (fun p' hp' => by rw [hp] at hp'; cases hp'; exact ⟨x, hx, hd⟩) hn
  cases hp : (lstP nx nx' I)[I]? with
  | none =>
    have : (lstP nx nx' I).length <= I := by
      rcases Nat.lt_or_ge I (lstP nx nx' I).length with h | h
      . rw [List.getElem?_eq_getElem h] at hp; cases hp
      . exact h
    exact ⟨I, _, h1, hold, .inl ⟨this, rfl⟩⟩
  | some p =>
    obtain ⟨x, hx, hd⟩ := h2 p hp
    obtain ⟨x0, k1, ⟨k2, k3⟩, k4⟩ := firstEx (P := fun x => x < nx.length /\ difP ou ou' p.1 x = true) x ⟨hx, hd⟩
    refine ⟨I, _, h1, hold, .inr ⟨p, x0, hp, k2, k3, fun y hy => ?_, rfl⟩⟩
    cases hd : difP ou ou' p.1 y with
    | false => rfl
    | true => exact absurd ⟨by omega, hd⟩ (k4 y hy)
end
def prD (c : Nat) : D := pairD ((c / 16 : Nat) : Int) ((c % 16 : Nat) : Int)
def plD (L : PL) : List D := L.map fun p => prD p.1
def wmD (L : PL) : List (D × D) := L.map fun p => (prD p.1, ints p.2)
theorem wm_keys : ∀ L : PL, keysP (wmD L) = true
  | [] => rfl
  | p :: L => wm_keys L
theorem wm_none {c : Nat} : ∀ {L : PL}, c ∉ L.map (·.1) -> mgetP ((c / 16 : Nat) : Int) ((c % 16 : Nat) : Int) (wmD L) = none
  | [], _ => rfl
  | p :: L, h => by
    have ih := wm_none (c := c) (L := L) fun h' => h (List.mem_cons_of_mem _ h')
    have hne : ¬ c = p.1 := fun e => h (e ▸ List.mem_cons_self ..)
    show (if ((c / 16 : Nat) : Int) = ((p.1 / 16 : Nat) : Int) /\ ((c % 16 : Nat) : Int) = ((p.1 % 16 : Nat) : Int) then _ else _) = _
    rw [if_neg (by omega)]
    exact ih
theorem wm_put {c : Nat} {w : List Int} : ∀ {L : PL}, c ∉ L.map (·.1) -> mputP ((c / 16 : Nat) : Int) ((c % 16 : Nat) : Int) (ints w) (wmD L) = wmD (L ++ [(c, w)])
  | [], _ => rfl
  | p :: L, h => by
    have ih := wm_put (c := c) (w := w) (L := L) fun h' => h (List.mem_cons_of_mem _ h')
    have hne : ¬ c = p.1 := fun e => h (e ▸ List.mem_cons_self ..)
    show (if ((c / 16 : Nat) : Int) = ((p.1 / 16 : Nat) : Int) /\ ((c % 16 : Nat) : Int) = ((p.1 % 16 : Nat) : Int) then _ else (prD p.1, ints p.2) :: mputP _ _ (ints w) (wmD L)) = _
    rw [if_neg (by omega), ih]
    rfl
theorem wm_get {p : Nat × List Int} : ∀ {L : PL} {i : Nat}, (L.map (·.1)).Nodup -> L[i]? = some p -> mgetP ((p.1 / 16 : Nat) : Int) ((p.1 % 16 : Nat) : Int) (wmD L) = some (ints p.2)
  | [], i, _, h => by simp at h
  | q :: L, i, hn, h => by
    rw [List.map_cons, List.nodup_cons] at hn
    show (if ((p.1 / 16 : Nat) : Int) = ((q.1 / 16 : Nat) : Int) /\ ((p.1 % 16 : Nat) : Int) = ((q.1 % 16 : Nat) : Int) then some (ints q.2) else _) = _
    cases i with
    | zero =>
      simp at h
      subst h
      rw [if_pos ⟨rfl, rfl⟩]
    | succ i =>
      have hm : p.1 ∈ L.map (·.1) := List.mem_map.2 ⟨p, List.mem_of_getElem? (by simpa using h), rfl⟩
      have hne : ¬ p.1 = q.1 := fun e => hn.1 (e ▸ hm)
      rw [if_neg (by omega)]
      exact wm_get hn.2 (by simpa using h)
end Go.Proofs.YtfemhnmggobhjaaGreat
namespace Go.Proofs.YtfemhnmggobhjaaGreat
open Go
attribute [local irreducible] awp awpL awpQL awpQ awpM pWalk Qt AC thenQ blockQ loopQ OpTo
set_option linter.unusedVariables false
set_option linter.unusedSimpArgs false
set_option maxHeartbeats 2000000
attribute [local irreducible] HC
theorem pairIs : KP Tryz.prog 127 := ⟨by kernel_rfl⟩
theorem wa_loadEltA {cx : Cx} {h : Heap} {dst : Option Nat} {ty : Nat} {pos : String} {af : Array Edge} {gd : Option (Nat × Bool)} {T : Nat} {x : Operand} {tr : TR} {f : Nat -> SV} {id i e sz : Nat} {xs zs : List D} (hx : opv f x = .elt id i) (hg : h.get id = some (.arr e sz xs)) (ht : tget cx.T T = some tr) (ha : tr.agg = true) (hy : xs[i]? = some (.agg zs)) (hl : zs.length = tr.size) :
    Qt cx h ⟨dst, .load T x, ty, pos, af, gd⟩ f (.d (.agg zs)) := qa_loadElt hx hg hy ht (.inr ⟨ha, zs, rfl, hl⟩)
theorem srch_hit {nx ou nx' ou' : List (List Int)} {I i x : Nat} {R : List Int × Bool} {p : Nat × List Int} (hS : Srch nx ou nx' ou' I R) (hi : i <= I) (hp : (lstP nx nx' i)[i]? = some p) (hx : x < nx.length) (hd : difP ou ou' p.1 x = true) (hb : ∀ y, y < x -> difP ou ou' p.1 y = false) : R = (p.2 ++ [(x : Int)], true) := by
  rcases Nat.lt_or_ge i I with h | h
  . obtain ⟨p', h1, h2⟩ := hS.old i h
    rw [hp] at h1
    cases h1
    rw [h2 x hx] at hd
    cases hd
  . have : i = I := by omega
    subst this
    rcases hS.fin with ⟨h1, _⟩ | ⟨p', x0, h1, h2, h3, h4, h5⟩
    . rw [List.getElem?_eq_none h1] at hp; cases hp
    . rw [hp] at h1
      cases h1
      have : x = x0 := by
        rcases Nat.lt_trichotomy x x0 with h | h | h
        . rw [h4 x h] at hd; cases hd
        . exact h
        . rw [hb x0 h] at h3; cases h3
      subst this
      exact h5
theorem srch_go {nx ou nx' ou' : List (List Int)} {I i : Nat} {R : List Int × Bool} {p : Nat × List Int} (hS : Srch nx ou nx' ou' I R) (hi : i <= I) (hp : (lstP nx nx' i)[i]? = some p) (hb : ∀ y, y < nx.length -> difP ou ou' p.1 y = false) : i < I := by
  rcases Nat.lt_or_ge i I with h | h
  . exact h
  . have : i = I := by omega
    subst this
    rcases hS.fin with ⟨h1, _⟩ | ⟨p', x0, h1, h2, h3, h4, h5⟩
    . rw [List.getElem?_eq_none h1] at hp; cases hp
    . rw [hp] at h1
      cases h1
      rw [hb x0 h2] at h3; cases h3
theorem srch_end {nx ou nx' ou' : List (List Int)} {I i : Nat} {R : List Int × Bool} (hS : Srch nx ou nx' ou' I R) (hi : i <= I) (hp : (lstP nx nx' i).length <= i) : R = ([], false) := by
  rcases Nat.lt_or_ge i I with h | h
  . obtain ⟨p', h1, h2⟩ := hS.old i h
    rw [List.getElem?_eq_none hp] at h1; cases h1
  . have : i = I := by omega
    subst this
    rcases hS.fin with ⟨h1, h2⟩ | ⟨p', x0, h1, _⟩
    . exact h2
    . rw [List.getElem?_eq_none hp] at h1; cases h1
theorem lstP_next {nx nx' : List (List Int)} {i : Nat} {p : Nat × List Int} (hp : (lstP nx nx' i)[i]? = some p) : lstP nx nx' (i + 1) = letP nx nx' p (lstP nx nx' i) nx.length := by
  show (match (lstP nx nx' i)[i]? with
    | some p => letP nx nx' p (lstP nx nx' i) nx.length
    | none => lstP nx nx' i) = _
  rw [hp]
theorem impl_apart {s o s' o' : Int} {nx ou nx' ou' : List (List Int)} {I : Nat} {R : List Int × Bool} (m : MV s o nx ou) (m' : MV s' o' nx' ou') (he : nx'.length = nx.length) (hS : Srch nx ou nx' ou' I R) (hI : I <= 1000) :
    AC Tryz.prog 82 [mach s o nx ou, mach s' o' nx' ou', .int .i64 0, .int .i64 0] (.tup [ints R.1, .bool R.2]) := by
  have hs := m.s1
  have hs' := m'.s1
  have hn := m.n1
  have heq := m.eq
  have heq' := m'.eq
  have hle : (List.map ints nx).length = nx.length := by simp
  have hok := fun i => lstP_ok m m' he i
  have hpl : ∀ L : PL, (plD L).length = L.length := fun L => by simp [plD]
  have hclo : ∀ w : List Int, w.length <= 1048576 -> HC Tryz.prog 121 [.d (ints w)] [] (.own 30000) [(30000, .arr 2 1 (w.map (.int .i64)))] := fun w h => impl_cloneH h
  have hpi := pairIs
  refine ac_intro tabIs _ Tryz.func82 rfl rfl Tryz.ntmps82 rfl rfl fun w0 ok0 he0 => ?_
  repeat (first | refine zcn ?_ | refine zv ?_)
  refine u_mJ [(3, [22]), (4, [23]), (9, [23])] (.tk [22, 23] [0, 1, 2, 5, 6, 7, 8] (.fork 3 4 (.tk [] [4, 9] (.tk [22] [10] (.tk [23] [11] (.tk [] [12] .done)))) (.fork 3 9 (.tk [] [9] (.tk [22] [10] (.tk [23] [11] (.tk [] [12] .done)))) (.tk [22] [10] (.tk [] [3] (.tk [23] [11] (.tk [] [12] .done)))))))
    [(4, .d (.ptr (mach s o nx ou))), (5, .d (.ptr (mach s' o' nx' ou'))), (10, .own 22), (11, .own 23)]
    [(22, .arr 127 2 (plD (lstP nx nx' 0))), (23, .map (wmD (lstP nx nx' 0)))] ?_ ?_
  . repeat (first | refine zc ?_ | refine zv ?_)
    refine m_fork ?_ ?_
    . repeat (first | refine v_w (t := 22) ?_ | refine zc ?_ | refine u_w (t := 22) ?_ | refine zv ?_)
      refine v_on ?_ (ho := by (intro rest; apply wo_mapInsertP; (iterate 6 exact rfl); exact pairIs; exact rfl))
      repeat (first | refine zc ?_ | refine zv ?_)
      exact ⟨by exact zs, perm_of_sort rfl⟩
    . repeat (first | refine zc ?_ | refine zv ?_)
      refine m_fork ?_ ?_
      . repeat (first | refine v_w (t := 22) ?_ | refine zc ?_ | refine u_w (t := 22) ?_ | refine zv ?_)
        refine v_on ?_ (ho := by (intro rest; apply wo_mapInsertP; (iterate 6 exact rfl); exact pairIs; exact rfl))
        repeat (first | refine zc ?_ | refine zv ?_)
        exact ⟨by exact zs, perm_of_sort rfl⟩
      . refine v_on ?_ (ho := by (intro rest; apply wo_mapInsertP; (iterate 6 exact rfl); exact pairIs; exact rfl))
        repeat (first | refine v_w (t := 22) ?_ | refine zc ?_ | refine u_w (t := 22) ?_ | refine zv ?_)
        exact ⟨by exact zs, perm_of_sort rfl⟩
  . repeat (first | refine zc ?_ | refine zv ?_)
    refine awp_loop (fun i : Nat => i <= I) (fun i => [(4, .d (.ptr (mach s o nx ou))), (5, .d (.ptr (mach s' o' nx' ou'))), (10, .own 22), (11, .own 23), (12, .d (.int .i64 i))]) (fun i => [(22, .arr 127 2 (plD (lstP nx nx' i))), (23, .map (wmD (lstP nx nx' i)))]) (fun i => I + 1 - i) 0 (by omega) ?_ rfl ?_
    . exact zs
    . intro i hi
      have hoki := hok i
      have hlen := hoki.len hs.2 hs'.2
      have hpli := hpl (lstP nx nx' i)
      by_cases hlt : i < (lstP nx nx' i).length
      . obtain ⟨p, hp⟩ : ∃ p, (lstP nx nx' i)[i]? = some p := ⟨_, List.getElem?_eq_getElem hlt⟩
        have hnext := lstP_next hp
        have hhit := fun x => srch_hit (x := x) hS hi hp
        have hgo := srch_go hS hi hp
        have hpm := List.mem_of_getElem? hp
        have hpl0 := hoki.lt p hpm
        have hwl := hoki.wl p hpm
        have hpre := letP_pre nx nx' p (lstP nx nx' i)
        have hokx := letP_ok m m' he hoki hpm
        have hel : (plD (lstP nx nx' i))[(i : Int).toNat]? = some (.agg [.int .i64 ((p.1 / 16 : Nat) : Int), .int .i64 ((p.1 % 16 : Nat) : Int)]) := by
          unfold plD
          rw [List.getElem?_map, Int.toNat_natCast, hp]
          rfl
        have hdf : ∀ x, difP ou ou' p.1 x = decide (¬ at2 ou x (p.1 / 16 : Nat) = at2 ou' x (p.1 % 16 : Nat)) := fun _ => rfl
        have hnx := fun x (hx : x < nx.length) => nxP_ok m m' he (c := p.1) (x := x) hx hpl0
        generalize hc : lstP nx nx' i = L at *
        have h0 : L = letP nx nx' p L 0 := rfl
        repeat (first | refine zc ?_ | ((first | apply x_l | apply x_q | apply x_lr | apply x_qr); (focus (first | (apply wa_loadEltA; (iterate 6 (focus (first | exact rfl | (first | assumption | omega | (simp; omega) | (simp; done) | rfl))))))); exact rfl) | (apply v_x; (iterate 2 exact rfl); (focus (intro ok0 nw hle; (first | (apply wa_loadEltA; (iterate 6 (focus (first | exact rfl | (first | assumption | omega | (simp; omega) | (simp; done) | rfl)))))))); (iterate 2 exact rfl)) | refine zv ?_)
        refine awp_freezeB 13 rfl rfl rfl ?_
        refine awp_perm [(22, .arr 127 2 (plD (letP nx nx' p L 0))), (23, .map (wmD (letP nx nx' p L 0)))] rfl ?_
        refine awp_loop (fun x : Nat => x <= nx.length /\ ∀ y, y < x -> difP ou ou' p.1 y = false) (fun x => [(4, .d (.ptr (mach s o nx ou))), (5, .d (.ptr (mach s' o' nx' ou'))), (10, .own 22), (11, .own 23), (12, .d (.int .i64 i)), (13, .d (.ptr (.agg [.int .i64 ((p.1 / 16 : Nat) : Int), .int .i64 ((p.1 % 16 : Nat) : Int)]))), (41, .d (.int .i64 nx.length)), (42, .d (.int .i64 x))])
          (fun x => [(22, .arr 127 2 (plD (letP nx nx' p L x))), (23, .map (wmD (letP nx nx' p L x)))]) (fun x => nx.length - x) 0 (by exact ⟨by omega, fun y h => by omega⟩) ?_ rfl ?_
        . refine ⟨rfl, rfl, rfl, rfl, rfl, rfl, ?_, rfl, trivial⟩
          exact congrArg (fun n : Nat => SV.d (.int .i64 n)) hle
        . rintro x ⟨hx, hb⟩
          have hokk := hokx x hx
          have hlenk := hokk.len hs.2 hs'.2
          have hplk := hpl (letP nx nx' p L x)
          by_cases hxl : x < nx.length
          . obtain ⟨t, ht⟩ := hpre x
            have hpi' : (letP nx nx' p L x)[i]? = some p := by rw [ht, List.getElem?_append_left hlt]; exact hp
            have hstep : letP nx nx' p L (x + 1) = addP (letP nx nx' p L x) (nxP nx nx' p.1 x) (p.2 ++ [(x : Int)]) := rfl
            obtain ⟨n1, n2, n3, n4⟩ := hnx x hxl
            have hget := wm_get hokk.nd hpi'
            have hnone := wm_none (c := nxP nx nx' p.1 x) (L := letP nx nx' p L x)
            have hput := wm_put (c := nxP nx nx' p.1 x) (w := p.2 ++ [(x : Int)]) (L := letP nx nx' p L x)
            have hkeys := wm_keys (letP nx nx' p L x)
            have hmet : nxP nx nx' p.1 x ∈ (letP nx nx' p L x).map (·.1) -> ∃ (q : Nat × List Int) (j : Nat), (letP nx nx' p L x)[j]? = some q /\ q.1 = nxP nx nx' p.1 x := fun h => by
              obtain ⟨q, hq, hq2⟩ := List.mem_map.1 h
              obtain ⟨j, hj, hj2⟩ := List.getElem_of_mem hq
              exact ⟨q, j, by rw [List.getElem?_eq_getElem hj, hj2], hq2⟩
            have hnd := hokk.nd
            generalize letP nx nx' p L x = K at *
            have hg1 : MGetP ((p.1 / 16 : Nat) : Int) ((p.1 % 16 : Nat) : Int) (wmD K) (some (ints p.2)) := ⟨hget⟩
            have e1 := hclo p.2 (by omega)
            have hx' : 0 <= (x : Int) /\ (x : Int) < nx.length := by omega
            have ro1 := el_row2 (xs := ou) (l := (x : Int)) (by omega)
            have ro2 := el_row2 (xs := ou') (l := (x : Int)) (by omega)
            have rn1 := el_row2 (xs := nx) (l := (x : Int)) (by omega)
            have rn2 := el_row2 (xs := nx') (l := (x : Int)) (by omega)
            have l1 := tbl_row m.ou (l := (x : Int)) (by omega)
            have l2 := tbl_row m'.ou (l := (x : Int)) (by omega)
            have l3 := tbl_row m.nx (l := (x : Int)) (by omega)
            have l4 := tbl_row m'.nx (l := (x : Int)) (by omega)
            have eo1 : (List.map (D.int .i64) (row ou x))[((p.1 / 16 : Nat) : Int).toNat]? = some (.int .i64 (at2 ou x (p.1 / 16 : Nat))) := el_int2 (ns := row ou x) (q := ((p.1 / 16 : Nat) : Int)) (by omega)
            have eo2 : (List.map (D.int .i64) (row ou' x))[((p.1 % 16 : Nat) : Int).toNat]? = some (.int .i64 (at2 ou' x (p.1 % 16 : Nat))) := el_int2 (ns := row ou' x) (q := ((p.1 % 16 : Nat) : Int)) (by omega)
            have en1 : (List.map (D.int .i64) (row nx x))[((p.1 / 16 : Nat) : Int).toNat]? = some (.int .i64 (at2 nx x (p.1 / 16 : Nat))) := el_int2 (ns := row nx x) (q := ((p.1 / 16 : Nat) : Int)) (by omega)
            have en2 : (List.map (D.int .i64) (row nx' x))[((p.1 % 16 : Nat) : Int).toNat]? = some (.int .i64 (at2 nx' x (p.1 % 16 : Nat))) := el_int2 (ns := row nx' x) (q := ((p.1 % 16 : Nat) : Int)) (by omega)
            have hdx := hdf x
            have hwm : (p.2.map (D.int .i64)).length = p.2.length := by simp
            repeat (first | refine zc ?_ | ((first | apply x_l | apply x_q | apply x_lr | apply x_qr); (focus (first | (apply wa_gotP; (iterate 10 (focus (first | exact rfl | (first | assumption | omega | (simp; omega) | (simp; done) | rfl))))))); exact rfl) | (apply v_x; (iterate 2 exact rfl); (focus (intro ok0 nw hle; (first | (apply wa_gotP; (iterate 10 (focus (first | exact rfl | (first | assumption | omega | (simp; omega) | (simp; done) | rfl)))))))); (iterate 2 exact rfl)) | refine zv ?_)
            refine hcl [] [(30000, 500)] e1 ?_
            cases hd : difP ou ou' p.1 x
            . rw [hd] at hdx
              have hcd : (!decide (at2 ou x (p.1 / 16 : Nat) = at2 ou' x (p.1 % 16 : Nat))) = false := by simpa using hdx
              repeat (first | refine zcn ?_ | refine zv ?_)
              refine awp_freeze 500 rfl rfl ?_
              refine u_d ?_
              repeat (first | refine zcn ?_ | refine zv ?_)
              refine u_m [(19, [16]), (20, [16])] (.tk [16] [0, 1, 2, 3, 4, 5, 6, 7, 8, 9, 10, 11, 12, 13, 14, 15, 16, 17, 18] (.tk [] [19, 20] .done)) ?_
              repeat (first | refine zcr ?_ | refine zv ?_)
              refine awp_freezeB 16 rfl rfl rfl ?_
              by_cases hmem : nxP nx nx' p.1 x ∈ K.map (·.1)
              . obtain ⟨q, j, hj1, hj2⟩ := hmet hmem
                have hg2 := wm_get hnd hj1
                rw [hj2, n1, n2] at hg2
                have hg2' : MGetP (at2 nx x (p.1 / 16 : Nat)) (at2 nx' x (p.1 % 16 : Nat)) (wmD K) (some (ints q.2)) := ⟨hg2⟩
                have hadd : addP K (nxP nx nx' p.1 x) (p.2 ++ [(x : Int)]) = K := if_pos hmem
                rw [hadd] at hstep
                repeat (first | refine zc ?_ | ((first | apply x_l | apply x_q | apply x_lr | apply x_qr); (focus (first | (apply wa_gotP; (iterate 10 (focus (first | exact rfl | (first | assumption | omega | (simp; omega) | (simp; done) | rfl))))))); exact rfl) | (apply v_x; (iterate 2 exact rfl); (focus (intro ok0 nw hle; (first | (apply wa_gotP; (iterate 10 (focus (first | exact rfl | (first | assumption | omega | (simp; omega) | (simp; done) | rfl)))))))); (iterate 2 exact rfl)) | refine zv ?_)
                refine loop_n (x + 1) ⟨by omega, fun y hy => ?_⟩ ?_ ?_ (by omega)
                . by_cases e : y = x
                  . subst e; exact hd
                  . exact hb y (by omega)
                . exact zs
                . rw [hstep]; rfl
              . have hg2 := hnone hmem
                rw [n1, n2] at hg2
                have hg2' : MGetP (at2 nx x (p.1 / 16 : Nat)) (at2 nx' x (p.1 % 16 : Nat)) (wmD K) none := ⟨hg2⟩
                have hadd : addP K (nxP nx nx' p.1 x) (p.2 ++ [(x : Int)]) = K ++ [(nxP nx nx' p.1 x, p.2 ++ [(x : Int)])] := if_neg hmem
                rw [hadd] at hstep
                have hput' := hput hmem
                rw [n1, n2] at hput'
                have hpl2 : plD (K ++ [(nxP nx nx' p.1 x, p.2 ++ [(x : Int)])]) = plD K ++ [.agg [.int .i64 (at2 nx x (p.1 / 16 : Nat)), .int .i64 (at2 nx' x (p.1 % 16 : Nat))]] := by
                  have : prD (nxP nx nx' p.1 x) = .agg [.int .i64 (at2 nx x (p.1 / 16 : Nat)), .int .i64 (at2 nx' x (p.1 % 16 : Nat))] := by
                    unfold prD pairD
                    rw [n1, n2]
                  simp [plD, this]
                repeat (first | refine zc ?_ | ((first | apply x_l | apply x_q | apply x_lr | apply x_qr); (focus (first | (apply wa_gotP; (iterate 10 (focus (first | exact rfl | (first | assumption | omega | (simp; omega) | (simp; done) | rfl))))))); exact rfl) | (apply v_x; (iterate 2 exact rfl); (focus (intro ok0 nw hle; (first | (apply wa_gotP; (iterate 10 (focus (first | exact rfl | (first | assumption | omega | (simp; omega) | (simp; done) | rfl)))))))); (iterate 2 exact rfl)) | refine zv ?_)
                (apply lto; (focus (apply wo_mapUpdateP; (iterate 6 exact rfl); exact pairIs; exact hkeys)))
                repeat (first | refine zc ?_ | refine zv ?_)
                refine loop_n (x + 1) ⟨by omega, fun y hy => ?_⟩ ?_ ?_ (by omega)
                . by_cases e : y = x
                  . subst e; exact hd
                  . exact hb y (by omega)
                . exact zs
                . have hints : ints (p.2 ++ [(x : Int)]) = D.lst (p.2.map (.int .i64) ++ [.int .i64 (x : Int)]) := by simp [ints]
                  rw [hstep, hpl2, <- hput', hints]
                  rfl
            . rw [hd] at hdx
              have hcd : (!decide (at2 ou x (p.1 / 16 : Nat) = at2 ou' x (p.1 % 16 : Nat))) = true := by simpa using hdx.symm
              have hR := hhit x hxl hd hb
              subst hR
              repeat (first | refine zc ?_ | refine zv ?_)
              refine zt ?_
              simp [ints]
          . have : x = nx.length := by omega
            subst this
            have hiI := hgo hb
            rw [<- hnext]
            repeat (first | refine zc ?_ | refine zv ?_)
            refine loop_n (i + 1) (by omega) ?_ rfl (by omega)
            exact zs
      . have hR := srch_end hS hi (by omega)
        subst hR
        repeat (first | refine zc ?_ | refine zv ?_)
        refine awp_nilSlot 8 7777 2 1 rfl rfl rfl ?_
        refine zt ?_
        rfl
end Go.Proofs.YtfemhnmggobhjaaGreat
namespace Go.Proofs.YtfemhnmggobhjaaGreat
open Go
attribute [local irreducible] awp awpL awpQL awpQ awpM pWalk Qt AC thenQ blockQ loopQ OpTo
set_option linter.unusedVariables false
set_option linter.unusedSimpArgs false
set_option maxHeartbeats 2000000
attribute [local irreducible] HC
theorem spec_l01Find1 {ls : List (List Int)} {w : List Int} {k0 : Nat} (hn : ls.length <= 1000) (hl : ∀ v ∈ ls, v.length <= 1000) (hw : w.length <= 1000) (h0 : k0 < ls.length) (hq : ls[k0] = w) (hmin : ∀ d, (h : d < k0) -> ¬ ls[d] = w) : AC Tryz.prog 146 [rows ls, ints w] (.int .i64 k0) := by
  have hle : (List.map ints ls).length = ls.length := by simp
  refine ac_intro tabIs _ Tryz.func146 rfl rfl Tryz.ntmps146 rfl rfl fun w0 ok0 he0 => ?_
  repeat (first | refine zc ?_ | refine zv ?_)
  refine awp_loop (fun k : Nat => k <= k0) (fun k => [(0, .d (rows ls)), (1, .d (ints w)), (5, .d (.int .i64 k))]) (fun _ => []) (fun k => ls.length - k) 0 (by omega) ?_ rfl ?_
  . exact zs
  . intro k hk
    have hlt : k < ls.length := by omega
    have hx : (List.map ints ls)[(k : Int).toNat]? = some (ints ls[k]) := by simp [hlt]
    have e1 := spec_l00Same (a := ls[k]) (b := w) (by have := hl _ (List.getElem_mem hlt); omega) (by omega)
    by_cases e : k < k0
    . rw [decide_eq_false (hmin k e)] at e1
      repeat (first | refine zc ?_ | refine zk (e := by exact e1) (n := ?_) | refine zv ?_)
      refine loop_n (k + 1) (by omega) ?_ rfl (by omega)
      exact zs
    . have : k = k0 := by omega
      subst this
      rw [decide_eq_true hq] at e1
      repeat (first | refine zc ?_ | refine zk (e := by exact e1) (n := ?_) | refine zv ?_)
      refine zt ?_
      rfl
theorem spec_l01Find0 {ls : List (List Int)} {w : List Int} (hn : ls.length <= 1000) (hl : ∀ v ∈ ls, v.length <= 1000) (hw : w.length <= 1000) (hnot : w ∉ ls) : AC Tryz.prog 146 [rows ls, ints w] (.int .i64 (-1)) := by
  have hle : (List.map ints ls).length = ls.length := by simp
  refine ac_intro tabIs _ Tryz.func146 rfl rfl Tryz.ntmps146 rfl rfl fun w0 ok0 he0 => ?_
  repeat (first | refine zc ?_ | refine zv ?_)
  refine awp_loop (fun k : Nat => k <= ls.length) (fun k => [(0, .d (rows ls)), (1, .d (ints w)), (5, .d (.int .i64 k))]) (fun _ => []) (fun k => ls.length - k) 0 (by omega) ?_ rfl ?_
  . exact zs
  . intro k hk
    by_cases hlt : k < ls.length
    . have hx : (List.map ints ls)[(k : Int).toNat]? = some (ints ls[k]) := by simp [hlt]
      have e1 := spec_l00Same (a := ls[k]) (b := w) (by have := hl _ (List.getElem_mem hlt); omega) (by omega)
      rw [decide_eq_false fun e : ls[k] = w => hnot (by rw [<- e]; exact List.getElem_mem hlt)] at e1
      repeat (first | refine zc ?_ | refine zk (e := by exact e1) (n := ?_) | refine zv ?_)
      refine loop_n (k + 1) (by omega) ?_ rfl (by omega)
      exact zs
    . have : k = ls.length := by omega
      subst this
      repeat (first | refine zc ?_ | refine zv ?_)
      refine zt ?_
      rfl
theorem spec_l01FindE {ls : List (List Int)} {w : List Int} (hn : ls.length <= 1000) (hl : ∀ v ∈ ls, v.length <= 1000) (hw : w.length <= 1000) : ∃ r : Int, (w ∈ ls -> 0 <= r) /\ (w ∉ ls -> r = -1) /\ AC Tryz.prog 146 [rows ls, ints w] (.int .i64 r) := by
  by_cases h : w ∈ ls
  . obtain ⟨k, hk, hkq⟩ := List.getElem_of_mem h
    obtain ⟨k0, h1, ⟨h2, h3⟩, h4⟩ := firstEx (P := fun k => ∃ hk : k < ls.length, ls[k] = w) k ⟨hk, hkq⟩
    exact ⟨k0, fun _ => by omega, fun h' => absurd h h', spec_l01Find1 hn hl hw h2 h3 fun d hd he => h4 d hd ⟨by omega, he⟩⟩
  . exact ⟨-1, fun h' => absurd h' h, fun _ => rfl, spec_l01Find0 hn hl hw h⟩
def prL (L : PL) : List (List Int) := L.map fun p => [((p.1 / 16 : Nat) : Int), ((p.1 % 16 : Nat) : Int)]
def wdL (L : PL) : List (List Int) := L.map fun p => p.2
@[simp] theorem prL_length (L : PL) : (prL L).length = L.length := by simp [prL]
@[simp] theorem wdL_length (L : PL) : (wdL L).length = L.length := by simp [wdL]
theorem mem_prL {c : Nat} {L : PL} : [((c / 16 : Nat) : Int), ((c % 16 : Nat) : Int)] ∈ prL L ↔ c ∈ L.map (·.1) := by
  unfold prL
  constructor
  . intro h
    obtain ⟨p, hp, e⟩ := List.mem_map.1 h
    simp only [List.cons.injEq, and_true] at e
    exact List.mem_map.2 ⟨p, hp, by omega⟩
  . intro h
    obtain ⟨p, hp, e⟩ := List.mem_map.1 h
    exact List.mem_map.2 ⟨p, hp, by subst e; rfl⟩
end Go.Proofs.YtfemhnmggobhjaaGreat
namespace Go.Proofs.YtfemhnmggobhjaaGreat
open Go
attribute [local irreducible] awp awpL awpQL awpQ awpM pWalk Qt AC thenQ blockQ loopQ OpTo
set_option linter.unusedVariables false
set_option linter.unusedSimpArgs false
set_option maxHeartbeats 2000000
attribute [local irreducible] HC
noncomputable def apR (nx ou nx' ou' : List (List Int)) : List Int × Bool := open Classical in if h : ∃ R, ∃ I, I <= 160 /\ Srch nx ou nx' ou' I R then Classical.choose h else ([], false)
section
variable {s o s' o' : Int} {nx ou nx' ou' : List (List Int)}
theorem apR_srch (m : MV s o nx ou) (m' : MV s' o' nx' ou') (he : nx'.length = nx.length) : ∃ I, I <= 160 /\ Srch nx ou nx' ou' I (apR nx ou nx' ou') := by
  obtain ⟨I, R, h1, h2⟩ := srch_ex m m' he
  have h : ∃ R, ∃ I, I <= 160 /\ Srch nx ou nx' ou' I R := ⟨R, I, h1, h2⟩
  unfold apR
  rw [dif_pos h]
  exact Classical.choose_spec h
theorem impl_apartR (m : MV s o nx ou) (m' : MV s' o' nx' ou') (he : nx'.length = nx.length) : AC Tryz.prog 82 [mach s o nx ou, mach s' o' nx' ou', .int .i64 0, .int .i64 0] (.tup [ints (apR nx ou nx' ou').1, .bool (apR nx ou nx' ou').2]) := by
  obtain ⟨I, h1, h2⟩ := apR_srch m m' he
  exact impl_apart m m' he h2 (by omega)
end
noncomputable def sameC (s o : Int) (nx ou : List (List Int)) : Nat -> Nat
  | 0 => 0
  | k + 1 => sameC s o nx ou k + if (apR nx ou (mutX s o nx ou k).1 (mutX s o nx ou k).2).2 then 0 else 1
theorem sameC_le {s o : Int} {nx ou : List (List Int)} : ∀ k, sameC s o nx ou k <= k
  | 0 => Nat.le_refl _
  | k + 1 => by
    have := sameC_le (s := s) (o := o) (nx := nx) (ou := ou) k
    unfold sameC
    split <;> omega
noncomputable def covD (s o : Int) (nx ou ws : List (List Int)) : Int × Int × Int × Int :=
  if machOk s o nx ou then (if suiteOk nx.length ws then (((kilL s o nx ou ws (mutN s o nx.length).toNat).length, sameC s o nx ou (mutN s o nx.length).toNat, mutN s o nx.length - (kilL s o nx ou ws (mutN s o nx.length).toNat).length - sameC s o nx ou (mutN s o nx.length).toNat, 0)) else (0, 0, 0, 2)) else (0, 0, 0, 1)
theorem impl_CoverageOf {s o : Int} {nx ou ws : List (List Int)} (h1 : RowsOk nx) (h2 : RowsOk ou) (h3 : RowsOk ws) :
    AC Tryz.prog 35 [mach s o nx ou, rows ws] (.tup [.int .i64 (covD s o nx ou ws).1, .int .i64 (covD s o nx ou ws).2.1, .int .i64 (covD s o nx ou ws).2.2.1, .int .i64 (covD s o nx ou ws).2.2.2]) := by
  have e1 : AC Tryz.prog 83 [mach s o nx ou, rows ws] (.tup [ints (kilD s o nx ou ws).1, .int .i64 (kilD s o nx ou ws).2]) := ac_of_hc (xs := [mach s o nx ou, rows ws]) (d := .tup [ints (kilD s o nx ou ws).1, .int .i64 (kilD s o nx ou ws).2]) (impl_KilledByH h1 h2 h3) rfl
  unfold covD
  unfold kilD at e1
  by_cases hv : machOk s o nx ou = true
  . rw [if_pos hv] at e1 ⊢
    by_cases hr : suiteOk nx.length ws = true
    . rw [if_pos hr] at e1 ⊢
      have m := mv_of hv
      have hb := mutN_bounds m.s1 m.o1 m.n1.2
      have e3 := impl_mutants (ou := ou) m.s1 m.o1 m.n1.2
      obtain ⟨M, hM⟩ : ∃ M : Nat, mutN s o nx.length = M := ⟨(mutN s o nx.length).toNat, by omega⟩
      have hMt : (mutN s o nx.length).toNat = M := by omega
      have hmut : ∀ k : Nat, k < M -> AC Tryz.prog 85 [mach s o nx ou, .int .i64 k] (mach s o (mutX s o nx ou k).1 (mutX s o nx ou k).2) := fun k hk => impl_mutant m (k := (k : Int)) (by omega)
      have hmv : ∀ k : Nat, k < M -> MV s o (mutX s o nx ou k).1 (mutX s o nx ou k).2 /\ (mutX s o nx ou k).1.length = nx.length := fun k hk => mv_mut m (k := (k : Int)) (by omega)
      have hkl := kilL_len s o nx ou ws M
      rw [hMt] at e1 ⊢
      rw [hM] at e3 hb ⊢
      generalize kilL s o nx ou ws M = L at *
      have hle : (List.map (D.int .i64) L).length = L.length := by simp
      have hap : ∀ k : Nat, k < M -> AC Tryz.prog 82 [mach s o nx ou, mach s o (mutX s o nx ou k).1 (mutX s o nx ou k).2, .int .i64 0, .int .i64 0] (.tup [ints (apR nx ou (mutX s o nx ou k).1 (mutX s o nx ou k).2).1, .bool (apR nx ou (mutX s o nx ou k).1 (mutX s o nx ou k).2).2]) := fun k hk => impl_apartR m (hmv k hk).1 (hmv k hk).2
      have hMb : (M : Int) <= 1000 := by omega
      have e2 := impl_size1 (ns := L)
      refine ac_intro tabIs _ Tryz.func35 rfl rfl Tryz.ntmps35 rfl rfl fun w0 ok0 he0 => ?_
      repeat (first | refine zc ?_ | refine zk (e := by exact e1) (n := ?_) | refine zk (e := by exact e3) (n := ?_) | refine zv ?_)
      refine awp_loop (fun k : Nat => k <= M) (fun k => [(2, .d (.ptr (mach s o nx ou))), (8, .d (ints L)), (10, .d (.int .i64 (sameC s o nx ou k))), (24, .d (.int .i64 M)), (25, .d (.int .i64 k))]) (fun _ => []) (fun k => M - k) 0 (by omega) ?_ rfl ?_
      . exact zs
      . intro k hk
        have hsl := sameC_le (s := s) (o := o) (nx := nx) (ou := ou) k
        by_cases hlt : k < M
        . have e4 := hmut k hlt
          have e5 := hap k hlt
          have hstep : sameC s o nx ou (k + 1) = sameC s o nx ou k + if (apR nx ou (mutX s o nx ou k).1 (mutX s o nx ou k).2).2 then 0 else 1 := rfl
          generalize mutX s o nx ou k = X at *
          generalize apR nx ou X.1 X.2 = A at *
          cases hA : A.2
          . rw [hA] at e5 hstep
            simp only [Bool.false_eq_true, if_false] at hstep
            repeat (first | refine zc ?_ | refine zk (e := by exact e4) (n := ?_) | refine zk (e := by exact e5) (n := ?_) | refine zv ?_)
            refine loop_n (k + 1) (by omega) ?_ rfl (by omega)
            rw [hstep]
            exact zs
          . rw [hA] at e5 hstep
            simp only [if_true, Nat.add_zero] at hstep
            repeat (first | refine zc ?_ | refine zk (e := by exact e4) (n := ?_) | refine zk (e := by exact e5) (n := ?_) | refine zv ?_)
            refine loop_n (k + 1) (by omega) ?_ rfl (by omega)
            rw [hstep]
            exact zs
        . have : k = M := by omega
          subst this
          repeat (first | refine zc ?_ | refine zk (e := by exact e2) (n := ?_) | refine zk (e := by exact e3) (n := ?_) | refine zv ?_)
          refine zt ?_
          rfl
    . rw [if_neg hr] at e1 ⊢
      refine ac_intro tabIs _ Tryz.func35 rfl rfl Tryz.ntmps35 rfl rfl fun w0 ok0 he0 => ?_
      repeat (first | refine zc ?_ | refine zk (e := by exact e1) (n := ?_) | refine zv ?_)
      refine zt ?_
      rfl
  . rw [if_neg hv] at e1 ⊢
    refine ac_intro tabIs _ Tryz.func35 rfl rfl Tryz.ntmps35 rfl rfl fun w0 ok0 he0 => ?_
    repeat (first | refine zc ?_ | refine zk (e := by exact e1) (n := ?_) | refine zv ?_)
    refine zt ?_
    rfl
end Go.Proofs.YtfemhnmggobhjaaGreat
namespace Go.Proofs.YtfemhnmggobhjaaGreat
open Go
attribute [local irreducible] awp awpL awpQL awpQ awpM pWalk Qt AC thenQ blockQ loopQ OpTo
set_option linter.unusedVariables false
set_option linter.unusedSimpArgs false
set_option maxHeartbeats 2000000
attribute [local irreducible] HC
section
variable {s o s' o' : Int} {nx ou nx' ou' : List (List Int)}
theorem lstP_pre (nx nx' : List (List Int)) (i : Nat) : ∀ d, ∃ t, lstP nx nx' (i + d) = lstP nx nx' i ++ t
  | 0 => ⟨[], by simp⟩
  | d + 1 => by
    obtain ⟨t, ht⟩ := lstP_pre nx nx' i d
    have h : lstP nx nx' (i + (d + 1)) = match (lstP nx nx' (i + d))[i + d]? with
      | some p => letP nx nx' p (lstP nx nx' (i + d)) nx.length
      | none => lstP nx nx' (i + d) := rfl
    cases hp : (lstP nx nx' (i + d))[i + d]? with
    | some p =>
      rw [hp] at h
      obtain ⟨u, hu⟩ := letP_pre nx nx' p (lstP nx nx' (i + d)) nx.length
      exact ⟨t ++ u, by rw [h, <- List.append_assoc, <- ht]; exact hu⟩
    | none =>
      rw [hp] at h
      exact ⟨t, by rw [h]; exact ht⟩
theorem addP_mem (L : PL) (c : Nat) (w : List Int) : c ∈ (addP L c w).map (·.1) := by
  unfold addP
  split
  . assumption
  . simp
theorem letP_mem (nx nx' : List (List Int)) (p : Nat × List Int) (L : PL) : ∀ k x, x < k -> nxP nx nx' p.1 x ∈ (letP nx nx' p L k).map (·.1)
  | 0, _, h => by omega
  | k + 1, x, h => by
    show _ ∈ (addP (letP nx nx' p L k) (nxP nx nx' p.1 k) (p.2 ++ [(k : Int)])).map (·.1)
    by_cases hx : x = k
    . subst hx; exact addP_mem _ _ _
    . obtain ⟨t, ht⟩ := addP_pre (letP nx nx' p L k) (nxP nx nx' p.1 k) (p.2 ++ [(k : Int)])
      rw [ht, List.map_append]
      exact List.mem_append_left _ (letP_mem nx nx' p L k x (by omega))
theorem srch_same (m : MV s o nx ou) (m' : MV s' o' nx' ou') (he : nx'.length = nx.length) {I : Nat} {R : List Int × Bool} (hS : Srch nx ou nx' ou' I R) (hR : R.2 = false) :
    ∀ (w : List Int) (c : Nat), c ∈ (lstP nx nx' I).map (·.1) -> (∀ l ∈ w, 0 <= l /\ l < nx.length) -> runO nx ou (c / 16 : Nat) w = runO nx' ou' (c % 16 : Nat) w := by
  have hlen : (lstP nx nx' I).length <= I := by
    rcases hS.fin with h | ⟨p, x0, _, _, _, _, h⟩
    . exact h.1
    . rw [h] at hR; cases hR
  have hok := lstP_ok m m' he I
  have key : ∀ c, c ∈ (lstP nx nx' I).map (·.1) -> ∃ p : Nat × List Int, p.1 = c /\ (∀ x, x < nx.length -> difP ou ou' c x = false) /\ (∀ x, x < nx.length -> nxP nx nx' c x ∈ (lstP nx nx' I).map (·.1)) /\ ((c / 16 : Nat) : Int) < s /\ ((c % 16 : Nat) : Int) < s' := by
    intro c hc
    obtain ⟨p, hp, rfl⟩ := List.mem_map.1 hc
    obtain ⟨j, hj, e⟩ := List.getElem_of_mem hp
    obtain ⟨q, hq, hd⟩ := hS.old j (by omega)
    obtain ⟨t, ht⟩ := lstP_pre nx nx' j (I - j)
    rw [show j + (I - j) = I by omega] at ht
    have hqp : q = p := by
      have h1 : (lstP nx nx' I)[j]? = some q := by
        have hlt : j < (lstP nx nx' j).length := by
          rcases Nat.lt_or_ge j (lstP nx nx' j).length with h | h
          . exact h
          . rw [List.getElem?_eq_none h] at hq; cases hq
        rw [ht, List.getElem?_append_left hlt]; exact hq
      rw [List.getElem?_eq_getElem hj, e] at h1
      exact (Option.some.inj h1).symm
    subst hqp
    refine ⟨q, rfl, hd, fun x hx => ?_, hok.lt q hp⟩
    have h1 := letP_mem nx nx' q (lstP nx nx' j) nx.length x hx
    have h2 : lstP nx nx' (j + 1) = letP nx nx' q (lstP nx nx' j) nx.length := by
      conv => lhs; unfold lstP
      rw [hq]
    obtain ⟨u, hu⟩ := lstP_pre nx nx' (j + 1) (I - (j + 1))
    rw [show j + 1 + (I - (j + 1)) = I by omega] at hu
    rw [hu, List.map_append, h2]
    exact List.mem_append_left _ h1
  intro w
  induction w with
  | nil => intro c _ _; rfl
  | cons l w ih =>
    intro c hc hw
    obtain ⟨p, rfl, hd, hn, b1, b2⟩ := key c hc
    have hl := hw l (List.mem_cons_self ..)
    have hx : l.toNat < nx.length := by omega
    have hlx : ((l.toNat : Nat) : Int) = l := by omega
    have hd0 := hd l.toNat hx
    unfold difP at hd0
    rw [hlx] at hd0
    have hd1 : at2 ou l (p.1 / 16 : Nat) = at2 ou' l (p.1 % 16 : Nat) := by
      have := of_decide_eq_false hd0
      exact Classical.not_not.1 this
    obtain ⟨n1, n2, -, -⟩ := nxP_ok m m' he (c := p.1) hx ⟨b1, b2⟩
    rw [hlx] at n1 n2
    have hi := ih _ (hn l.toNat hx) (fun l' h' => hw l' (List.mem_cons_of_mem _ h'))
    rw [n1, n2] at hi
    show at2 ou l _ :: runO nx ou _ w = at2 ou' l _ :: runO nx' ou' _ w
    rw [hd1, hi]
theorem lstP_zero (nx nx' : List (List Int)) (I : Nat) : 0 ∈ (lstP nx nx' I).map (·.1) := by
  obtain ⟨t, ht⟩ := lstP_pre nx nx' 0 I
  rw [show 0 + I = I by omega] at ht
  rw [ht]
  simp [lstP]
theorem apR_same (m : MV s o nx ou) (m' : MV s' o' nx' ou') (he : nx'.length = nx.length) (hR : (apR nx ou nx' ou').2 = false) (w : List Int) (hw : ∀ l ∈ w, 0 <= l /\ l < nx.length) : runO nx ou 0 w = runO nx' ou' 0 w := by
  obtain ⟨I, _, hS⟩ := apR_srch m m' he
  exact srch_same m m' he hS hR w 0 (lstP_zero nx nx' I) hw
end
end Go.Proofs.YtfemhnmggobhjaaGreat
