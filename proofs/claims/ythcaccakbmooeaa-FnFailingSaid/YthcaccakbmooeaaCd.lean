/- CoverageOf, in the reference and in the program, and its law. No condition. -/
import Derived.Test.YthcaccakbmooeaaCc
namespace Go.Proofs.Ythcaccakbmooeaa
open Go
attribute [local irreducible] awp awpL awpQL awpQ awpM pWalk Qt AC thenQ blockQ loopQ OpTo
set_option linter.unusedVariables false
set_option linter.unusedSimpArgs false
set_option maxHeartbeats 2000000
attribute [local irreducible] HC

/-- The first word that tells two machines apart, and whether there is one. -/
noncomputable def apR (nx ou nx' ou' : List (List Int)) : List Int × Bool := open Classical in if h : ∃ R, ∃ I, I ≤ 160 ∧ Srch nx ou nx' ou' I R then Classical.choose h else ([], false)
section
variable {s o s' o' : Int} {nx ou nx' ou' : List (List Int)}
theorem apR_srch (m : MV s o nx ou) (m' : MV s' o' nx' ou') (he : nx'.length = nx.length) : ∃ I, I ≤ 160 ∧ Srch nx ou nx' ou' I (apR nx ou nx' ou') := by
  obtain ⟨I, R, h1, h2⟩ := srch_ex m m' he
  have h : ∃ R, ∃ I, I ≤ 160 ∧ Srch nx ou nx' ou' I R := ⟨R, I, h1, h2⟩
  unfold apR
  rw [dif_pos h]
  exact Classical.choose_spec h
theorem impl_apartR (m : MV s o nx ou) (m' : MV s' o' nx' ou') (he : nx'.length = nx.length) : AC Try.prog 72 [mach s o nx ou, mach s' o' nx' ou', .int .i64 0, .int .i64 0] (.tup [ints (apR nx ou nx' ou').1, .bool (apR nx ou nx' ou').2]) := by
  obtain ⟨I, h1, h2⟩ := apR_srch m m' he
  exact impl_apart m m' he h2 (by omega)
end

/-- How many of the first mutants are equivalent. -/
noncomputable def sameC (s o : Int) (nx ou : List (List Int)) : Nat → Nat
  | 0 => 0
  | k + 1 => sameC s o nx ou k + if (apR nx ou (mutX s o nx ou k).1 (mutX s o nx ou k).2).2 then 0 else 1
theorem sameC_le {s o : Int} {nx ou : List (List Int)} : ∀ k, sameC s o nx ou k ≤ k
  | 0 => Nat.le_refl _
  | k + 1 => by
    have := sameC_le (s := s) (o := o) (nx := nx) (ou := ou) k
    unfold sameC
    split <;> omega
/-- What CoverageOf answers. -/
noncomputable def covD (s o : Int) (nx ou ws : List (List Int)) : Int × Int × Int × Int :=
  if machOk s o nx ou then (if suiteOk nx.length ws then (((kilL s o nx ou ws (mutN s o nx.length).toNat).length, sameC s o nx ou (mutN s o nx.length).toNat, mutN s o nx.length - (kilL s o nx ou ws (mutN s o nx.length).toNat).length - sameC s o nx ou (mutN s o nx.length).toNat, 0)) else (0, 0, 0, 2)) else (0, 0, 0, 1)

end Go.Proofs.Ythcaccakbmooeaa

/-! A search that finds no word: the two machines have the same outputs for all words. No condition. -/
namespace Go.Proofs.Ythcaccakbmooeaa
open Go
attribute [local irreducible] awp awpL awpQL awpQ awpM pWalk Qt AC thenQ blockQ loopQ OpTo
set_option linter.unusedVariables false
set_option linter.unusedSimpArgs false
set_option maxHeartbeats 2000000
attribute [local irreducible] HC

section
variable {s o s' o' : Int} {nx ou nx' ou' : List (List Int)}
theorem lstP_pre (nx nx' : List (List Int)) (i : Nat) : ∀ d, ∃ t, lstP nx nx' (i + d) = lstP nx nx' i ++ t
  | 0 => ⟨[], by simp⟩
  | d + 1 => by
    obtain ⟨t, ht⟩ := lstP_pre nx nx' i d
    have h : lstP nx nx' (i + (d + 1)) = match (lstP nx nx' (i + d))[i + d]? with
      | some p => letP nx nx' p (lstP nx nx' (i + d)) nx.length
      | none => lstP nx nx' (i + d) := rfl
    cases hp : (lstP nx nx' (i + d))[i + d]? with
    | some p =>
      rw [hp] at h
      obtain ⟨u, hu⟩ := letP_pre nx nx' p (lstP nx nx' (i + d)) nx.length
      exact ⟨t ++ u, by rw [h, ← List.append_assoc, ← ht]; exact hu⟩
    | none =>
      rw [hp] at h
      exact ⟨t, by rw [h]; exact ht⟩
theorem addP_mem (L : PL) (c : Nat) (w : List Int) : c ∈ (addP L c w).map (·.1) := by
  unfold addP
  split
  · assumption
  · simp
theorem letP_mem (nx nx' : List (List Int)) (p : Nat × List Int) (L : PL) : ∀ k x, x < k → nxP nx nx' p.1 x ∈ (letP nx nx' p L k).map (·.1)
  | 0, _, h => by omega
  | k + 1, x, h => by
    show _ ∈ (addP (letP nx nx' p L k) (nxP nx nx' p.1 k) (p.2 ++ [(k : Int)])).map (·.1)
    by_cases hx : x = k
    · subst hx; exact addP_mem _ _ _
    · obtain ⟨t, ht⟩ := addP_pre (letP nx nx' p L k) (nxP nx nx' p.1 k) (p.2 ++ [(k : Int)])
      rw [ht, List.map_append]
      exact List.mem_append_left _ (letP_mem nx nx' p L k x (by omega))

/-- Pairs from which the outputs are the same for all words. -/
theorem srch_same (m : MV s o nx ou) (m' : MV s' o' nx' ou') (he : nx'.length = nx.length) {I : Nat} {R : List Int × Bool} (hS : Srch nx ou nx' ou' I R) (hR : R.2 = false) :
    ∀ (w : List Int) (c : Nat), c ∈ (lstP nx nx' I).map (·.1) → (∀ l ∈ w, 0 ≤ l ∧ l < nx.length) → runO nx ou (c / 16 : Nat) w = runO nx' ou' (c % 16 : Nat) w := by
  have hlen : (lstP nx nx' I).length ≤ I := by
    rcases hS.fin with h | ⟨p, x0, _, _, _, _, h⟩
    · exact h.1
    · rw [h] at hR; cases hR
  have hok := lstP_ok m m' he I
  have key : ∀ c, c ∈ (lstP nx nx' I).map (·.1) → ∃ p : Nat × List Int, p.1 = c ∧ (∀ x, x < nx.length → difP ou ou' c x = false) ∧ (∀ x, x < nx.length → nxP nx nx' c x ∈ (lstP nx nx' I).map (·.1)) ∧ ((c / 16 : Nat) : Int) < s ∧ ((c % 16 : Nat) : Int) < s' := by
    intro c hc
    obtain ⟨p, hp, rfl⟩ := List.mem_map.1 hc
    obtain ⟨j, hj, e⟩ := List.getElem_of_mem hp
    obtain ⟨q, hq, hd⟩ := hS.old j (by omega)
    obtain ⟨t, ht⟩ := lstP_pre nx nx' j (I - j)
    rw [show j + (I - j) = I by omega] at ht
    have hqp : q = p := by
      have h1 : (lstP nx nx' I)[j]? = some q := by
        have hlt : j < (lstP nx nx' j).length := by
          rcases Nat.lt_or_ge j (lstP nx nx' j).length with h | h
          · exact h
          · rw [List.getElem?_eq_none h] at hq; cases hq
        rw [ht, List.getElem?_append_left hlt]; exact hq
      rw [List.getElem?_eq_getElem hj, e] at h1
      exact (Option.some.inj h1).symm
    subst hqp
    refine ⟨q, rfl, hd, fun x hx => ?_, hok.lt q hp⟩
    have h1 := letP_mem nx nx' q (lstP nx nx' j) nx.length x hx
    have h2 : lstP nx nx' (j + 1) = letP nx nx' q (lstP nx nx' j) nx.length := by
      conv => lhs; unfold lstP
      rw [hq]
    obtain ⟨u, hu⟩ := lstP_pre nx nx' (j + 1) (I - (j + 1))
    rw [show j + 1 + (I - (j + 1)) = I by omega] at hu
    rw [hu, List.map_append, h2]
    exact List.mem_append_left _ h1
  intro w
  induction w with
  | nil => intro c _ _; rfl
  | cons l w ih =>
    intro c hc hw
    obtain ⟨p, rfl, hd, hn, b1, b2⟩ := key c hc
    have hl := hw l (List.mem_cons_self ..)
    have hx : l.toNat < nx.length := by omega
    have hlx : ((l.toNat : Nat) : Int) = l := by omega
    have hd0 := hd l.toNat hx
    unfold difP at hd0
    rw [hlx] at hd0
    have hd1 : at2 ou l (p.1 / 16 : Nat) = at2 ou' l (p.1 % 16 : Nat) := by
      have := of_decide_eq_false hd0
      exact Classical.not_not.1 this
    obtain ⟨n1, n2, -, -⟩ := nxP_ok m m' he (c := p.1) hx ⟨b1, b2⟩
    rw [hlx] at n1 n2
    have hi := ih _ (hn l.toNat hx) (fun l' h' => hw l' (List.mem_cons_of_mem _ h'))
    rw [n1, n2] at hi
    show at2 ou l _ :: runO nx ou _ w = at2 ou' l _ :: runO nx' ou' _ w
    rw [hd1, hi]

theorem lstP_zero (nx nx' : List (List Int)) (I : Nat) : 0 ∈ (lstP nx nx' I).map (·.1) := by
  obtain ⟨t, ht⟩ := lstP_pre nx nx' 0 I
  rw [show 0 + I = I by omega] at ht
  rw [ht]
  simp [lstP]

theorem apR_same (m : MV s o nx ou) (m' : MV s' o' nx' ou') (he : nx'.length = nx.length) (hR : (apR nx ou nx' ou').2 = false) (w : List Int) (hw : ∀ l ∈ w, 0 ≤ l ∧ l < nx.length) : runO nx ou 0 w = runO nx' ou' 0 w := by
  obtain ⟨I, _, hS⟩ := apR_srch m m' he
  exact srch_same m m' he hS hR w 0 (lstP_zero nx nx' I) hw
theorem apR_diff (m : MV s o nx ou) (m' : MV s' o' nx' ou') (he : nx'.length = nx.length) {w : List Int} (hw : ∀ l ∈ w, 0 ≤ l ∧ l < nx.length) (hd : ¬ runO nx ou 0 w = runO nx' ou' 0 w) : (apR nx ou nx' ou').2 = true := by
  cases h : (apR nx ou nx' ou').2 with
  | true => rfl
  | false => exact absurd (apR_same m m' he h w hw) hd
end
end Go.Proofs.Ythcaccakbmooeaa
