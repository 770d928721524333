/- Plain facts of mutants: different ones differ, and one differs from its machine in one place. No condition. -/
import Derived.Test.YthcaccakbmooeaaKg
namespace Go.Proofs.Ythcaccakbmooeaa
open Go
attribute [local irreducible] awp awpL awpQL awpQ awpM pWalk Qt AC thenQ blockQ loopQ OpTo
set_option linter.unusedVariables false
set_option linter.unusedSimpArgs false
set_option maxHeartbeats 2000000
attribute [local irreducible] HC

theorem kilL_mem (s o : Int) (nx ou ws : List (List Int)) : ∀ (k : Nat) (v : Int), v ∈ kilL s o nx ou ws k ↔ (0 ≤ v ∧ v < k) ∧ kilB s o nx ou ws v = true
  | 0, v => by
    unfold kilL
    simp only [List.not_mem_nil, false_iff]
    rintro ⟨h, _⟩
    omega
  | k + 1, v => by
    have ih := kilL_mem s o nx ou ws k v
    unfold kilL
    rw [List.mem_append, ih]
    by_cases hv : v = (k : Int)
    · subst hv
      by_cases ha : kilB s o nx ou ws (k : Int) = true
      · simp [ha]; omega
      · simp [ha]
    · have hm : v ∈ (if kilB s o nx ou ws (k : Int) = true then [(k : Int)] else []) ↔ False := by
        split <;> simp [hv]
      rw [hm]
      constructor
      · rintro (⟨h, h'⟩ | h)
        · exact ⟨⟨h.1, by omega⟩, h'⟩
        · exact h.elim
      · rintro ⟨h, h'⟩
        exact .inl ⟨⟨h.1, by omega⟩, h'⟩

/-! ### Places where lists differ -/
def dRow (a b : List Int) : Nat → Nat
  | 0 => 0
  | q + 1 => dRow a b q + if b.getD q 0 = a.getD q 0 then 0 else 1
def dAll (A B : List (List Int)) (n : Nat) : Nat → Nat
  | 0 => 0
  | i + 1 => dAll A B n i + dRow (A.getD i []) (B.getD i []) n
theorem dRow_same (a : List Int) : ∀ q, dRow a a q = 0
  | 0 => rfl
  | q + 1 => by simp [dRow, dRow_same a q]
theorem dAll_same (A : List (List Int)) (n : Nat) : ∀ i, dAll A A n i = 0
  | 0 => rfl
  | i + 1 => by simp [dAll, dAll_same A n i, dRow_same]
theorem dRow_le (a b : List Int) : ∀ q, dRow a b q ≤ q
  | 0 => Nat.le_refl _
  | q + 1 => by have := dRow_le a b q; unfold dRow; split <;> omega
theorem dAll_le (A B : List (List Int)) (n : Nat) : ∀ i, dAll A B n i ≤ n * i
  | 0 => Nat.le_refl _
  | i + 1 => by have := dAll_le A B n i; have := dRow_le (A.getD i []) (B.getD i []) n; unfold dAll; rw [Nat.mul_succ]; omega
theorem dRow_set {a : List Int} {p : Nat} {v : Int} (hp : p < a.length) (hv : v ≠ a.getD p 0) : ∀ q, dRow a (a.set p v) q = if p < q then 1 else 0
  | 0 => rfl
  | q + 1 => by
    unfold dRow
    rw [dRow_set hp hv q]
    by_cases h : p = q
    · subst h
      simp only [List.getD_eq_getElem?_getD] at hv ⊢
      simp [hp] at hv ⊢
      simp [hv]
    · have h1 : (a.set p v).getD q 0 = a.getD q 0 := by
        simp only [List.getD_eq_getElem?_getD]
        rw [List.getElem?_set_ne h]
      rw [h1, if_pos rfl]
      split <;> split <;> omega
theorem dAll_set {A : List (List Int)} {p : Nat} {r : List Int} {n : Nat} (hp : p < A.length) : ∀ i, dAll A (A.set p r) n i = if p < i then dRow (A.getD p []) r n else 0
  | 0 => rfl
  | i + 1 => by
    unfold dAll
    rw [dAll_set hp i]
    by_cases h : p = i
    · subst h
      have h1 : (A.set p r).getD p [] = r := by simp [List.getD_eq_getElem?_getD, hp]
      rw [h1]
      simp
    · have h1 : (A.set p r).getD i [] = A.getD i [] := by
        simp only [List.getD_eq_getElem?_getD]
        rw [List.getElem?_set_ne h]
      rw [h1, dRow_same]
      split <;> split <;> omega
theorem dAll_set2 {xs : List (List Int)} {l q v : Int} {n : Nat} (hl : 0 ≤ l ∧ l < xs.length) (hq : 0 ≤ q ∧ q < n) (hr : (row xs l).length = n) (hv : v ≠ at2 xs l q) :
    dAll xs (set2 xs l q v) n xs.length = 1 := by
  unfold set2
  rw [dAll_set (by omega), if_pos (by omega)]
  show dRow (row xs l) _ n = 1
  rw [dRow_set (a := row xs l) (p := q.toNat) (v := v) (by omega) hv, if_pos (by omega)]

theorem othr_ne (i x : Int) : othr i x ≠ x := by unfold othr; split <;> omega
theorem othr_inj {i j x : Int} (h : othr i x = othr j x) : i = j := by unfold othr at h; split at h <;> split at h <;> omega

theorem at2_set2 {xs : List (List Int)} {l q v l' q' : Int} (hl : 0 ≤ l ∧ l < xs.length) (hq : 0 ≤ q ∧ q < (row xs l).length) (hl' : 0 ≤ l' ∧ l' < xs.length) (hq' : 0 ≤ q') :
    at2 (set2 xs l q v) l' q' = if l = l' ∧ q = q' then v else at2 xs l' q' := by
  unfold at2 set2
  by_cases h : l = l'
  · subst h
    have h1 : (xs.set l.toNat ((row xs l).set q.toNat v)).getD l.toNat [] = (row xs l).set q.toNat v := by
      have : l.toNat < xs.length := by omega
      simp [List.getD_eq_getElem?_getD, this]
    rw [h1]
    by_cases h2 : q = q'
    · subst h2
      have : q.toNat < (row xs l).length := by omega
      simp [List.getD_eq_getElem?_getD, this]
    · rw [if_neg (by simp [h2])]
      show ((row xs l).set q.toNat v).getD q'.toNat 0 = (row xs l).getD q'.toNat 0
      simp only [List.getD_eq_getElem?_getD]
      rw [List.getElem?_set_ne (by omega)]
  · rw [if_neg (by simp [h])]
    have h1 : (xs.set l.toNat ((row xs l).set q.toNat v)).getD l'.toNat [] = xs.getD l'.toNat [] := by
      simp only [List.getD_eq_getElem?_getD]
      rw [List.getElem?_set_ne (by omega)]
    rw [h1]
/-- Two changes at one place that give the same table are the same change. -/
theorem set2_inj {xs : List (List Int)} {n : Nat} {l q l' q' i i' : Int} (hl : 0 ≤ l ∧ l < xs.length) (hq : 0 ≤ q ∧ q < n) (hl' : 0 ≤ l' ∧ l' < xs.length) (hq' : 0 ≤ q' ∧ q' < n)
    (hr : ∀ l : Int, (0 ≤ l ∧ l < xs.length) → (row xs l).length = n) (h : set2 xs l q (othr i (at2 xs l q)) = set2 xs l' q' (othr i' (at2 xs l' q'))) : l = l' ∧ q = q' ∧ i = i' := by
  have h1 := at2_set2 (v := othr i (at2 xs l q)) hl (by rw [hr l hl]; exact hq) hl hq.1
  rw [if_pos ⟨rfl, rfl⟩, h, at2_set2 (v := othr i' (at2 xs l' q')) hl' (by rw [hr l' hl']; exact hq') hl hq.1] at h1
  split at h1
  · rename_i he
    obtain ⟨rfl, rfl⟩ := he
    exact ⟨rfl, rfl, (othr_inj h1).symm⟩
  · exact absurd h1.symm (othr_ne _ _)
theorem set2_ne {xs : List (List Int)} {n : Nat} {l q i : Int} (hl : 0 ≤ l ∧ l < xs.length) (hq : 0 ≤ q ∧ q < n)
    (hr : ∀ l : Int, (0 ≤ l ∧ l < xs.length) → (row xs l).length = n) : set2 xs l q (othr i (at2 xs l q)) ≠ xs := fun h => by
  have h1 := at2_set2 (v := othr i (at2 xs l q)) hl (by rw [hr l hl]; exact hq) hl hq.1
  rw [if_pos ⟨rfl, rfl⟩, h] at h1
  exact othr_ne _ _ h1.symm

theorem tbl_rown {s hi : Int} {xs : List (List Int)} (h : Tbl s hi xs) (hs : 1 ≤ s) (l : Int) (hl : 0 ≤ l ∧ l < xs.length) : (row xs l).length = s.toNat := by
  have := (h _ (row_mem hl)).1
  omega

theorem mutX_inj {s o j k : Int} {nx ou : List (List Int)} (m : MV s o nx ou) (hj : 0 ≤ j ∧ j < mutN s o nx.length) (hk : 0 ≤ k ∧ k < mutN s o nx.length) (h : mutX s o nx ou j = mutX s o nx ou k) : j = k := by
  have aj := mut_idx m.s1 m.o1 m.n1.2 hj
  have ak := mut_idx m.s1 m.o1 m.n1.2 hk
  have hs := m.s1
  have e := m.eq
  have rn := tbl_rown m.nx hs.1
  have ro := tbl_rown m.ou hs.1
  have j1 := Int.emod_add_mul_ediv j (o - 1 + s - 1)
  have k1 := Int.emod_add_mul_ediv k (o - 1 + s - 1)
  have j2 := Int.emod_add_mul_ediv (j / (o - 1 + s - 1)) s
  have k2 := Int.emod_add_mul_ediv (k / (o - 1 + s - 1)) s
  unfold mutX at h
  split at h <;> split at h
  · obtain ⟨h1, h2, h3⟩ := set2_inj (n := s.toNat) ⟨aj.l0.1, by rw [e]; exact aj.l0.2⟩ ⟨aj.q0.1, by have := aj.q0.2; omega⟩ ⟨ak.l0.1, by rw [e]; exact ak.l0.2⟩ ⟨ak.q0.1, by have := ak.q0.2; omega⟩ ro (congrArg Prod.snd h)
    rw [h1, h2, k2] at j2
    rw [← j2, h3, k1] at j1
    exact j1.symm
  · exact absurd (congrArg Prod.snd h) (set2_ne (n := s.toNat) ⟨aj.l0.1, by rw [e]; exact aj.l0.2⟩ ⟨aj.q0.1, by have := aj.q0.2; omega⟩ ro)
  · exact absurd (congrArg Prod.fst h) (set2_ne (n := s.toNat) ⟨aj.l0.1, aj.l0.2⟩ ⟨aj.q0.1, by have := aj.q0.2; omega⟩ rn)
  · obtain ⟨h1, h2, h3⟩ := set2_inj (n := s.toNat) ⟨aj.l0.1, aj.l0.2⟩ ⟨aj.q0.1, by have := aj.q0.2; omega⟩ ⟨ak.l0.1, ak.l0.2⟩ ⟨ak.q0.1, by have := ak.q0.2; omega⟩ rn (congrArg Prod.fst h)
    rw [h1, h2, k2] at j2
    have h3 : j % (o - 1 + s - 1) = k % (o - 1 + s - 1) := by omega
    rw [← j2, h3, k1] at j1
    exact j1.symm

theorem mutX_one {s o k : Int} {nx ou : List (List Int)} (m : MV s o nx ou) (hk : 0 ≤ k ∧ k < mutN s o nx.length) :
    dAll nx (mutX s o nx ou k).1 s.toNat nx.length + dAll ou (mutX s o nx ou k).2 s.toNat nx.length = 1 := by
  have ak := mut_idx m.s1 m.o1 m.n1.2 hk
  have hs := m.s1
  have e := m.eq
  have rn := tbl_rown m.nx hs.1
  have ro := tbl_rown m.ou hs.1
  unfold mutX
  split
  · have hl : 0 ≤ k / (o - 1 + s - 1) / s ∧ k / (o - 1 + s - 1) / s < ou.length := ⟨ak.l0.1, by rw [e]; exact ak.l0.2⟩
    have := dAll_set2 (n := s.toNat) hl ⟨ak.q0.1, by have := ak.q0.2; omega⟩ (ro _ hl) (othr_ne (k % (o - 1 + s - 1)) (at2 ou (k / (o - 1 + s - 1) / s) (k / (o - 1 + s - 1) % s)))
    dsimp only
    rw [dAll_same, ← e, this]
  · have hl := ak.l0
    have := dAll_set2 (n := s.toNat) hl ⟨ak.q0.1, by have := ak.q0.2; omega⟩ (rn _ hl) (othr_ne (k % (o - 1 + s - 1) - (o - 1)) (at2 nx (k / (o - 1 + s - 1) / s) (k / (o - 1 + s - 1) % s)))
    dsimp only
    rw [dAll_same, this]

theorem mutN_zero {s o : Int} {n : Nat} (hs : 1 ≤ s) (ho : 1 ≤ o) (hn : 1 ≤ n) (h : mutN s o n = 0) : s = 1 ∧ o = 1 := by
  by_cases c : o - 1 + s - 1 = 0
  · omega
  · have h1 : 0 < o - 1 + s - 1 := by omega
    have h2 : (0 : Int) < n * s := Int.mul_pos (by omega) (by omega)
    have := Int.mul_pos h2 h1
    unfold mutN at h
    omega

end Go.Proofs.Ythcaccakbmooeaa
