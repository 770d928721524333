/- A machine with at most k states more that passes a complete suite answers alike to all words (plain). No condition. -/
import Derived.Test.YtfemhnmggobhjaaGreatPa
import Derived.Test.YtfemhnmggobhjaaGreatIa
import Derived.Test.YtfemhnmggobhjaaGreatYc
import Derived.Test.YtfemhnmggobhjaaGreatHd
namespace Go.Proofs.YtfemhnmggobhjaaGreat
set_option linter.unusedVariables false
theorem runS_append (nx : List (List Int)) : ∀ (u v : List Int) (q : Int), runS nx q (u ++ v) = runS nx (runS nx q u) v
  | [], _, _ => rfl
  | l :: u, v, q => runS_append nx u v (at2 nx l q)
def LtW (n : Nat) (w : List Int) : Prop := ∀ l ∈ w, 0 ≤ l ∧ l < (n : Int)
def Zk (n : Nat) (W : List (List Int)) (i : Nat) (w : List Int) : Prop := ∃ u v, u.length ≤ i ∧ LtW n u ∧ v ∈ W ∧ w = u ++ v
def Agr (nx ou : List (List Int)) (Z : List Int → Prop) (x y : Int) : Prop := ∀ w, Z w → runO nx ou x w = runO nx ou y w
theorem Agr.symm {nx ou : List (List Int)} {Z : List Int → Prop} {x y : Int} (h : Agr nx ou Z x y) : Agr nx ou Z y x := fun w hw => (h w hw).symm
theorem Agr.trans {nx ou : List (List Int)} {Z : List Int → Prop} {x y z : Int} (h : Agr nx ou Z x y) (k : Agr nx ou Z y z) : Agr nx ou Z x z := fun w hw => (h w hw).trans (k w hw)
theorem Zk.mono {n : Nat} {W : List (List Int)} {i j : Nat} (h : i ≤ j) {w : List Int} (hz : Zk n W i w) : Zk n W j w := by
  obtain ⟨u, v, h1, h2, h3, h4⟩ := hz
  exact ⟨u, v, by omega, h2, h3, h4⟩
theorem Agr.mono {nx ou : List (List Int)} {n : Nat} {W : List (List Int)} {i j : Nat} (h : i ≤ j) {x y : Int} (k : Agr nx ou (Zk n W j) x y) : Agr nx ou (Zk n W i) x y := fun w hw => k w (hw.mono h)
end Go.Proofs.YtfemhnmggobhjaaGreat
namespace Go.Proofs.YtfemhnmggobhjaaGreat
open Go
attribute [local irreducible] awp awpL awpQL awpQ awpM pWalk Qt AC thenQ blockQ loopQ OpTo
set_option linter.unusedVariables false
set_option linter.unusedSimpArgs false
set_option maxHeartbeats 2000000
attribute [local irreducible] HC HX
theorem max_cover {ws : List (List Int)} {B : Nat} (hB : ∀ w ∈ ws, w.length ≤ B) : ∀ (n : Nat) (w : List Int), w ∈ ws → B - w.length ≤ n → ∃ v ∈ maxW ws, w.length ≤ v.length ∧ w = v.take w.length := by
  intro n
  induction n with
  | zero =>
    intro w hw hn
    refine ⟨w, uniqW_mem.2 (List.mem_filter.2 ⟨hw, ?_⟩), Nat.le_refl _, by rw [List.take_length]⟩
    cases h : (ws.any fun x => begB w x) with
    | false => rfl
    | true =>
      obtain ⟨x, hx, hx2⟩ := List.any_eq_true.1 h
      unfold begB at hx2
      rw [Bool.and_eq_true, decide_eq_true_eq] at hx2
      have := hB x hx
      omega
  | succ n ih =>
    intro w hw hn
    cases h : (ws.any fun x => begB w x) with
    | false => exact ⟨w, uniqW_mem.2 (List.mem_filter.2 ⟨hw, by rw [h]; rfl⟩), Nat.le_refl _, by rw [List.take_length]⟩
    | true =>
      obtain ⟨x, hx, hx2⟩ := List.any_eq_true.1 h
      unfold begB at hx2
      rw [Bool.and_eq_true, decide_eq_true_eq, decide_eq_true_eq] at hx2
      obtain ⟨v, hv, h1, h2⟩ := ih x hx (by omega)
      refine ⟨v, hv, by omega, ?_⟩
      rw [hx2.2, h2, List.take_take, List.length_take]
      congr 1
      omega
theorem max_all {ws : List (List Int)} {w : List Int} (hw : w ∈ ws) : ∃ v ∈ maxW ws, w.length ≤ v.length ∧ w = v.take w.length := by
  have : ∃ B, ∀ w ∈ ws, w.length ≤ B := by
    clear hw
    induction ws with
    | nil => exact ⟨0, fun w h => by cases h⟩
    | cons x ws ih =>
      obtain ⟨B, hB⟩ := ih
      refine ⟨max B x.length, fun w h => ?_⟩
      rcases List.mem_cons.1 h with rfl | h
      . omega
      . have := hB w h; omega
  obtain ⟨B, hB⟩ := this
  exact max_cover hB B w hw (by omega)
theorem covL_run {s o : Int} {nx ou : List (List Int)} (m : MV s o nx ou) : ∀ i, ∀ p ∈ lstC nx i, runS nx 0 p.2 = ((p.1 : Nat) : Int) := by
  have step : ∀ (p : Nat × List Int) (L : PL), COk s nx.length L → p ∈ L → (∀ q ∈ L, runS nx 0 q.2 = ((q.1 : Nat) : Int)) → ∀ k, k ≤ nx.length → ∀ q ∈ letC nx p L k, runS nx 0 q.2 = ((q.1 : Nat) : Int) := by
    intro p L hok hp h k
    induction k with
    | zero => exact fun _ => h
    | succ k ih =>
      intro hk q hq
      have hq : q ∈ addP (letC nx p L k) (nxC nx p.1 k) (p.2 ++ [(k : Int)]) := hq
      unfold addP at hq
      split at hq
      . exact ih (by omega) q hq
      . rcases List.mem_append.1 hq with hq | hq
        . exact ih (by omega) q hq
        . simp only [List.mem_singleton] at hq
          subst hq
          obtain ⟨h1, -, -⟩ := nxC_ok m (c := p.1) (x := k) (by omega) (hok.lt p hp)
          show runS nx 0 (p.2 ++ [(k : Int)]) = _
          rw [runS_append, h p hp, h1]
          rfl
  intro i
  induction i with
  | zero =>
    intro p hp
    simp only [lstC, List.mem_singleton] at hp
    subst hp
    rfl
  | succ i ih =>
    unfold lstC
    split
    . rename_i p hp
      exact step p _ (lstC_ok m i) (List.mem_of_getElem? hp) ih nx.length (Nat.le_refl _)
    . exact ih
theorem lstC_pre (nx : List (List Int)) (i : Nat) : ∀ d, ∃ t, lstC nx (i + d) = lstC nx i ++ t
  | 0 => ⟨[], by simp⟩
  | d + 1 => by
    obtain ⟨t, ht⟩ := lstC_pre nx i d
    have h : lstC nx (i + (d + 1)) = match (lstC nx (i + d))[i + d]? with
      | some p => letC nx p (lstC nx (i + d)) nx.length
      | none => lstC nx (i + d) := rfl
    cases hp : (lstC nx (i + d))[i + d]? with
    | some p =>
      rw [hp] at h
      obtain ⟨u, hu⟩ := letC_pre nx p (lstC nx (i + d)) nx.length
      exact ⟨t ++ u, by rw [h, ← List.append_assoc, ← ht]; exact hu⟩
    | none =>
      rw [hp] at h
      exact ⟨t, by rw [h]; exact ht⟩
theorem cvW_zero (nx : List (List Int)) : cvW (covL nx) 0 = [] := by
  obtain ⟨t, ht⟩ := lstC_pre nx 0 10
  have : covL nx = [(0, [])] ++ t := ht
  rw [this]
  rfl
theorem cvW_facts {s o : Int} {nx ou : List (List Int)} (m : MV s o nx ou) (hc : ¬ ((covL nx).length : Int) < s) {q : Nat} (hq : (q : Int) < s) : runS nx 0 (cvW (covL nx) q) = q ∧ LtW nx.length (cvW (covL nx) q) ∧ cvW (covL nx) q ∈ cvR (covL nx) s.toNat := by
  have hok : COk s nx.length (covL nx) := lstC_ok m 10
  have hmem := nodup_all hok.nd (N := s.toNat) (fun x hx => by
    obtain ⟨p, hp, rfl⟩ := List.mem_map.1 hx
    have := hok.lt p hp
    omega) (by simp; omega) (q := q) (by omega)
  obtain ⟨p, hp, rfl⟩ := List.mem_map.1 hmem
  obtain ⟨j, hj, ej⟩ := List.getElem_of_mem hp
  have hLj : (covL nx)[j]? = some p := by rw [List.getElem?_eq_getElem hj, ej]
  refine ⟨?_, ?_, List.mem_map.2 ⟨p.1, List.mem_range.2 (by omega), rfl⟩⟩
  . rw [cvW_at hok.nd hLj]; exact covL_run m 10 p hp
  . rw [cvW_at hok.nd hLj]; exact hok.el p hp
end Go.Proofs.YtfemhnmggobhjaaGreat
namespace Go.Proofs.YtfemhnmggobhjaaGreat
open Go
attribute [local irreducible] awp awpL awpQL awpQ awpM pWalk Qt AC thenQ blockQ loopQ OpTo
set_option linter.unusedVariables false
set_option linter.unusedSimpArgs false
set_option maxHeartbeats 2000000
attribute [local irreducible] HC HX
section
variable {s o : Int} {nx ou : List (List Int)}
end
end Go.Proofs.YtfemhnmggobhjaaGreat
