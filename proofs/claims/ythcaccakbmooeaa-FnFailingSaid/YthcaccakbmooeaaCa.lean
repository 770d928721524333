/- The search for a word that tells two machines apart: plain facts. No condition. -/
import Derived.Test.YthcaccakbmooeaaNg
import Derived.Test.YthcaccakbmooeaaFwV
namespace Go.Proofs.Ythcaccakbmooeaa
open Go
attribute [local irreducible] awp awpL awpQL awpQ awpM pWalk Qt AC thenQ blockQ loopQ OpTo
set_option linter.unusedVariables false
set_option linter.unusedSimpArgs false
set_option maxHeartbeats 2000000
attribute [local irreducible] HC

theorem firstEx {P : Nat → Prop} : ∀ k, P k → ∃ D, D ≤ k ∧ P D ∧ ∀ d, d < D → ¬ P d := fun k => by
  induction k using Nat.strongRecOn with
  | _ k ih =>
    intro h
    by_cases he : ∃ d, d < k ∧ P d
    · obtain ⟨d, hd, hp⟩ := he
      obtain ⟨D, h1, h2⟩ := ih d hd hp
      exact ⟨D, by omega, h2⟩
    · exact ⟨k, Nat.le_refl _, h, fun d hd hp => he ⟨d, hd, hp⟩⟩
theorem nodupLe : ∀ (N : Nat) (l : List Nat), l.Nodup → (∀ x ∈ l, x < N) → l.length ≤ N
  | 0, l, _, h => by
    cases l with
    | nil => simp
    | cons a l => have := h a (List.mem_cons_self ..); omega
  | N + 1, l, hn, h => by
    have h1 := nodupLe N (l.erase N) (hn.erase N) fun x hx => by
      have := hn.mem_erase_iff.1 hx
      have := h x this.2
      omega
    have := List.length_erase (a := N) (l := l)
    split at this <;> omega

abbrev PL := List (Nat × List Int)
/-- The pair behind a letter; pairs are numbers, 16 times the first state and the second one. -/
def nxP (nx nx' : List (List Int)) (c x : Nat) : Nat := (at2 nx x (c / 16 : Nat)).toNat * 16 + (at2 nx' x (c % 16 : Nat)).toNat
def difP (ou ou' : List (List Int)) (c x : Nat) : Bool := decide (¬ at2 ou x (c / 16 : Nat) = at2 ou' x (c % 16 : Nat))
def addP (L : PL) (c : Nat) (w : List Int) : PL := if c ∈ L.map (·.1) then L else L ++ [(c, w)]
def letP (nx nx' : List (List Int)) (p : Nat × List Int) (L : PL) : Nat → PL
  | 0 => L
  | x + 1 => addP (letP nx nx' p L x) (nxP nx nx' p.1 x) (p.2 ++ [(x : Int)])
def lstP (nx nx' : List (List Int)) : Nat → PL
  | 0 => [(0, [])]
  | i + 1 => match (lstP nx nx' i)[i]? with
    | some p => letP nx nx' p (lstP nx nx' i) nx.length
    | none => lstP nx nx' i

structure POk (s s' : Int) (L : PL) : Prop where
  nd : (L.map (·.1)).Nodup
  lt : ∀ p ∈ L, ((p.1 / 16 : Nat) : Int) < s ∧ ((p.1 % 16 : Nat) : Int) < s'
  wl : ∀ p ∈ L, p.2.length < L.length

theorem POk.len {s s' : Int} {L : PL} (hs : s ≤ 10) (hs' : s' ≤ 10) (h : POk s s' L) : L.length ≤ 160 := by
  have := nodupLe 160 (L.map (·.1)) h.nd fun x hx => by
    obtain ⟨p, hp, rfl⟩ := List.mem_map.1 hx
    have := h.lt p hp
    omega
  simpa using this

theorem addP_pre (L : PL) (c : Nat) (w : List Int) : ∃ t, addP L c w = L ++ t := by
  unfold addP
  split
  · exact ⟨[], by simp⟩
  · exact ⟨_, rfl⟩
theorem addP_ok {s s' : Int} {L : PL} {c : Nat} {w : List Int} (h : POk s s' L) (hc : ((c / 16 : Nat) : Int) < s ∧ ((c % 16 : Nat) : Int) < s') (hw : w.length ≤ L.length) : POk s s' (addP L c w) := by
  unfold addP
  split
  · exact h
  · rename_i hn
    refine ⟨?_, fun p hp => ?_, fun p hp => ?_⟩
    · rw [List.map_append]
      refine List.nodup_append.2 ⟨h.nd, by simp, fun a ha b hb => ?_⟩
      simp only [List.map_cons, List.map_nil, List.mem_singleton] at hb
      subst hb
      exact fun e => hn (e ▸ ha)
    · rcases List.mem_append.1 hp with h1 | h1
      · exact h.lt p h1
      · simp only [List.mem_singleton] at h1
        subst h1
        exact hc
    · rw [List.length_append]
      rcases List.mem_append.1 hp with h1 | h1
      · have := h.wl p h1
        simp only [List.length_singleton]
        omega
      · simp only [List.mem_singleton] at h1
        subst h1
        simp only [List.length_singleton]
        show w.length < _
        omega
theorem letP_pre (nx nx' : List (List Int)) (p : Nat × List Int) (L : PL) : ∀ k, ∃ t, letP nx nx' p L k = L ++ t
  | 0 => ⟨[], by simp [letP]⟩
  | k + 1 => by
    obtain ⟨t, ht⟩ := letP_pre nx nx' p L k
    obtain ⟨u, hu⟩ := addP_pre (letP nx nx' p L k) (nxP nx nx' p.1 k) (p.2 ++ [(k : Int)])
    exact ⟨t ++ u, by show addP _ _ _ = _; rw [hu, ht, List.append_assoc]⟩

section
variable {s o s' o' : Int} {nx ou nx' ou' : List (List Int)}
theorem nxP_ok (m : MV s o nx ou) (m' : MV s' o' nx' ou') (he : nx'.length = nx.length) {c x : Nat} (hx : x < nx.length) (hc : ((c / 16 : Nat) : Int) < s ∧ ((c % 16 : Nat) : Int) < s') :
    ((nxP nx nx' c x / 16 : Nat) : Int) = at2 nx x (c / 16 : Nat) ∧ ((nxP nx nx' c x % 16 : Nat) : Int) = at2 nx' x (c % 16 : Nat) ∧ (0 ≤ at2 nx x (c / 16 : Nat) ∧ at2 nx x (c / 16 : Nat) < s) ∧ 0 ≤ at2 nx' x (c % 16 : Nat) ∧ at2 nx' x (c % 16 : Nat) < s' := by
  have h1 := tbl_at m.nx (l := (x : Int)) (q := ((c / 16 : Nat) : Int)) (by omega) (by omega)
  have h2 := tbl_at m'.nx (l := (x : Int)) (q := ((c % 16 : Nat) : Int)) (by omega) (by omega)
  have hs := m'.s1
  unfold nxP
  generalize at2 nx x (c / 16 : Nat) = a at *
  generalize at2 nx' x (c % 16 : Nat) = b at *
  omega
theorem letP_ok (m : MV s o nx ou) (m' : MV s' o' nx' ou') (he : nx'.length = nx.length) {p : Nat × List Int} {L : PL} (h : POk s s' L) (hp : p ∈ L) : ∀ k, k ≤ nx.length → POk s s' (letP nx nx' p L k)
  | 0, _ => h
  | k + 1, hk => by
    have ih := letP_ok m m' he h hp k (by omega)
    obtain ⟨h1, h2, h3, h4⟩ := nxP_ok m m' he (c := p.1) (x := k) (by omega) (h.lt p hp)
    obtain ⟨t, ht⟩ := letP_pre nx nx' p L k
    have hw := h.wl p hp
    refine addP_ok ih (by omega) ?_
    rw [ht, List.length_append, List.length_append]
    simp only [List.length_singleton]
    omega
theorem lstP_ok (m : MV s o nx ou) (m' : MV s' o' nx' ou') (he : nx'.length = nx.length) : ∀ i, POk s s' (lstP nx nx' i)
  | 0 => by
    have h1 := m.s1
    have h2 := m'.s1
    refine ⟨by simp [lstP], fun p hp => ?_, fun p hp => ?_⟩
    · simp only [lstP, List.mem_singleton] at hp; subst hp; simp; omega
    · simp only [lstP, List.mem_singleton] at hp; subst hp; simp [lstP]
  | i + 1 => by
    have ih := lstP_ok m m' he i
    unfold lstP
    split
    · rename_i p hp
      exact letP_ok m m' he ih (List.mem_of_getElem? hp) nx.length (Nat.le_refl _)
    · exact ih

/-- How the search ends. -/
structure Srch (nx ou nx' ou' : List (List Int)) (I : Nat) (R : List Int × Bool) : Prop where
  old : ∀ i, i < I → ∃ p, (lstP nx nx' i)[i]? = some p ∧ ∀ x, x < nx.length → difP ou ou' p.1 x = false
  fin : ((lstP nx nx' I).length ≤ I ∧ R = ([], false)) ∨ ∃ p x0, (lstP nx nx' I)[I]? = some p ∧ x0 < nx.length ∧ difP ou ou' p.1 x0 = true ∧ (∀ x, x < x0 → difP ou ou' p.1 x = false) ∧ R = (p.2 ++ [(x0 : Int)], true)
theorem srch_ex (m : MV s o nx ou) (m' : MV s' o' nx' ou') (he : nx'.length = nx.length) : ∃ I R, I ≤ 160 ∧ Srch nx ou nx' ou' I R := by
  have hl := fun i => (lstP_ok m m' he i).len m.s1.2 m'.s1.2
  obtain ⟨I, h1, h2, h3⟩ := firstEx (P := fun i => ∀ p, (lstP nx nx' i)[i]? = some p → ∃ x, x < nx.length ∧ difP ou ou' p.1 x = true) 160 fun p hp => by
    rw [List.getElem?_eq_none (hl 160)] at hp
    cases hp
  have hold : ∀ i, i < I → ∃ p, (lstP nx nx' i)[i]? = some p ∧ ∀ x, x < nx.length → difP ou ou' p.1 x = false := fun i hi => by
    have hn := h3 i hi
    cases hp : (lstP nx nx' i)[i]? with
    | none => exact absurd (fun p hp' => by rw [hp] at hp'; cases hp') hn
    | some p =>
      refine ⟨p, rfl, fun x hx => ?_⟩
      cases hd : difP ou ou' p.1 x with
      | false => rfl
      | true => exact absurd (fun p' hp' => by rw [hp] at hp'; cases hp'; exact ⟨x, hx, hd⟩) hn
  cases hp : (lstP nx nx' I)[I]? with
  | none =>
    have : (lstP nx nx' I).length ≤ I := by
      rcases Nat.lt_or_ge I (lstP nx nx' I).length with h | h
      · rw [List.getElem?_eq_getElem h] at hp; cases hp
      · exact h
    exact ⟨I, _, h1, hold, .inl ⟨this, rfl⟩⟩
  | some p =>
    obtain ⟨x, hx, hd⟩ := h2 p hp
    obtain ⟨x0, k1, ⟨k2, k3⟩, k4⟩ := firstEx (P := fun x => x < nx.length ∧ difP ou ou' p.1 x = true) x ⟨hx, hd⟩
    refine ⟨I, _, h1, hold, .inr ⟨p, x0, hp, k2, k3, fun y hy => ?_, rfl⟩⟩
    cases hd : difP ou ou' p.1 y with
    | false => rfl
    | true => exact absurd ⟨by omega, hd⟩ (k4 y hy)
end

/-! ### The words by pairs -/
def prD (c : Nat) : D := pairD ((c / 16 : Nat) : Int) ((c % 16 : Nat) : Int)
def plD (L : PL) : List D := L.map fun p => prD p.1
def wmD (L : PL) : List (D × D) := L.map fun p => (prD p.1, ints p.2)
theorem wm_keys : ∀ L : PL, keysP (wmD L) = true
  | [] => rfl
  | p :: L => wm_keys L
theorem wm_none {c : Nat} : ∀ {L : PL}, c ∉ L.map (·.1) → mgetP ((c / 16 : Nat) : Int) ((c % 16 : Nat) : Int) (wmD L) = none
  | [], _ => rfl
  | p :: L, h => by
    have ih := wm_none (c := c) (L := L) fun h' => h (List.mem_cons_of_mem _ h')
    have hne : ¬ c = p.1 := fun e => h (e ▸ List.mem_cons_self ..)
    show (if ((c / 16 : Nat) : Int) = ((p.1 / 16 : Nat) : Int) ∧ ((c % 16 : Nat) : Int) = ((p.1 % 16 : Nat) : Int) then _ else _) = _
    rw [if_neg (by omega)]
    exact ih
theorem wm_put {c : Nat} {w : List Int} : ∀ {L : PL}, c ∉ L.map (·.1) → mputP ((c / 16 : Nat) : Int) ((c % 16 : Nat) : Int) (ints w) (wmD L) = wmD (L ++ [(c, w)])
  | [], _ => rfl
  | p :: L, h => by
    have ih := wm_put (c := c) (w := w) (L := L) fun h' => h (List.mem_cons_of_mem _ h')
    have hne : ¬ c = p.1 := fun e => h (e ▸ List.mem_cons_self ..)
    show (if ((c / 16 : Nat) : Int) = ((p.1 / 16 : Nat) : Int) ∧ ((c % 16 : Nat) : Int) = ((p.1 % 16 : Nat) : Int) then _ else (prD p.1, ints p.2) :: mputP _ _ (ints w) (wmD L)) = _
    rw [if_neg (by omega), ih]
    rfl
theorem wm_get {p : Nat × List Int} : ∀ {L : PL} {i : Nat}, (L.map (·.1)).Nodup → L[i]? = some p → mgetP ((p.1 / 16 : Nat) : Int) ((p.1 % 16 : Nat) : Int) (wmD L) = some (ints p.2)
  | [], i, _, h => by simp at h
  | q :: L, i, hn, h => by
    rw [List.map_cons, List.nodup_cons] at hn
    show (if ((p.1 / 16 : Nat) : Int) = ((q.1 / 16 : Nat) : Int) ∧ ((p.1 % 16 : Nat) : Int) = ((q.1 % 16 : Nat) : Int) then some (ints q.2) else _) = _
    cases i with
    | zero =>
      simp at h
      subst h
      rw [if_pos ⟨rfl, rfl⟩]
    | succ i =>
      have hm : p.1 ∈ L.map (·.1) := List.mem_map.2 ⟨p, List.mem_of_getElem? (by simpa using h), rfl⟩
      have hne : ¬ p.1 = q.1 := fun e => hn.1 (e ▸ hm)
      rw [if_neg (by omega)]
      exact wm_get hn.2 (by simpa using h)
end Go.Proofs.Ythcaccakbmooeaa
