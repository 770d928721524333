/- What is asked of a valid machine and a valid suite. No condition. -/
import Derived.Test.YtkaffmojojnhhaaKf
import Derived.Test.YtkaffmojojnhhaaNh
import Derived.Test.YtkaffmojojnhhaaPe
namespace Go.Proofs.Ytkaffmojojnhhaa
open Go
attribute [local irreducible] awp awpL awpQL awpQ awpM pWalk Qt AC thenQ blockQ loopQ OpTo
set_option linter.unusedVariables false
set_option linter.unusedSimpArgs false
set_option maxHeartbeats 2000000
attribute [local irreducible] HC

theorem SuOk.rows {n : Nat} {ws : List (List Int)} (h : SuOk n ws) (hn : n ≤ 1000) : RowsOk ws :=
  ⟨fun w hw => ⟨fun l hl => by have := (h.all w hw).2 l hl; exact ⟨by omega, by omega⟩, by have := (h.all w hw).1; omega⟩, by have := h.len; omega⟩


theorem elsOk_rows : ∀ nss : List (List Int), elsOk 1 (nss.map ints) = true
  | [] => rfl
  | ns :: nss => by simp [elsOk, D.el, D.one, D.width, ints, elsOk_rows nss]

section
variable {s o k : Int} {nx ou ws os : List (List Int)}
theorem mutD_v (m : MV s o nx ou) : mutD s o nx ou = (mutN s o nx.length, 0) := if_pos (machOk_mv m)
theorem mutAt_v (m : MV s o nx ou) (hk : 0 ≤ k ∧ k < mutN s o nx.length) : mutAt s o nx ou k = ((s, o), mutX s o nx ou k, 0) := by
  unfold mutAt
  rw [if_pos (machOk_mv m), if_pos (by simp [inB]; omega)]
theorem kilD_v (m : MV s o nx ou) (h : SuOk nx.length ws) : kilD s o nx ou ws = (kilL s o nx ou ws (mutN s o nx.length).toNat, 0) := by
  unfold kilD
  rw [if_pos (machOk_mv m), if_pos (suiteOk_su h)]
theorem canD_v (m : MV s o nx ou) (h : SuOk nx.length ws) (hl : ws.length = os.length) : canD s o nx ou ws os = (canL s o nx ou ws os (mutN s o nx.length).toNat, 0) := by
  unfold canD
  rw [if_pos (machOk_mv m), if_pos (suiteOk_su h), if_pos hl]
theorem psD_v {s' : Int} {nx' ou' : List (List Int)} (m : MV s o nx ou) (m' : MV s' o nx' ou') (hn : nx'.length = nx.length) (h : SuOk nx.length ws) : psD s o s' o nx ou nx' ou' ws = (decide ((failS nx ou nx' ou' 0 ws).1 < 0), 0) := by
  have : twoC s o s' o nx ou nx' ou' ws = 0 := by
    unfold twoC
    rw [if_pos (by rw [machOk_mv m, machOk_mv m']; rfl), if_pos (by rw [suiteOk_su h, hn]; simp)]
  unfold psD
  rw [if_pos this]

theorem impl_MutantCountV (m : MV s o nx ou) : AC Try.prog 23 [mach s o nx ou] (.tup [.int .i64 (mutN s o nx.length), .int .i64 0]) := by
  have := impl_MutantCount (s := s) (o := o) m.rnx m.rou
  rwa [mutD_v m] at this
theorem impl_KilledByV (m : MV s o nx ou) (h : SuOk nx.length ws) : AC Try.prog 59 [mach s o nx ou, rows ws] (.tup [ints (kilL s o nx ou ws (mutN s o nx.length).toNat), .int .i64 0]) := by
  have := impl_KilledByH (s := s) (o := o) m.rnx m.rou (h.rows (by have := m.n1; omega))
  rw [kilD_v m h] at this
  exact ac_of_hc (xs := [mach s o nx ou, rows ws]) (d := .tup [ints (kilL s o nx ou ws (mutN s o nx.length).toNat), .int .i64 0]) this rfl
theorem impl_PassesV {s' : Int} {nx' ou' : List (List Int)} (m : MV s o nx ou) (m' : MV s' o nx' ou') (hn : nx'.length = nx.length) (h : SuOk nx.length ws) :
    AC Try.prog 30 [mach s o nx ou, mach s' o nx' ou', rows ws] (.tup [.bool (decide ((failS nx ou nx' ou' 0 ws).1 < 0)), .int .i64 0]) := by
  have := impl_Passes (s := s) (o := o) (s' := s') (o' := o) m.rnx m.rou m'.rnx m'.rou (h.rows (by have := m.n1; omega))
  rwa [psD_v m m' hn h] at this
end

theorem failW_same (nx ou nx' ou' : List (List Int)) : ∀ (w : List Int) (s t : Int) (k : Nat), failW nx ou nx' ou' s t k w < 0 ↔ runO nx ou s w = runO nx' ou' t w
  | [], s, t, k => by simp [failW, runO]
  | l :: w, s, t, k => by
    simp only [failW, runO, List.cons.injEq]
    split
    · rename_i h
      rw [failW_same nx ou nx' ou' w _ _ (k + 1)]
      simp [h]
    · rename_i h
      simp [h]
theorem failS_same (nx ou nx' ou' : List (List Int)) : ∀ (ws : List (List Int)) (i : Nat), (failS nx ou nx' ou' i ws).1 < 0 ↔ ws.map (runO nx ou 0) = ws.map (runO nx' ou' 0)
  | [], i => by simp [failS]
  | w :: ws, i => by
    have h := failW_same nx ou nx' ou' w 0 0 0
    simp only [failS, List.map_cons, List.cons.injEq]
    split
    · rename_i hc
      rw [failS_same nx ou nx' ou' ws (i + 1), ← h]
      simp [hc]
    · rename_i hc
      rw [← h]
      simp [hc]

theorem canL_mem (s o : Int) (nx ou ws os : List (List Int)) : ∀ (k : Nat) (v : Int), v ∈ canL s o nx ou ws os k ↔ (v = -1 ∧ ansB nx ou ws os = true) ∨ ((0 ≤ v ∧ v < k) ∧ ansB (mutX s o nx ou v).1 (mutX s o nx ou v).2 ws os = true)
  | 0, v => by
    unfold canL
    split <;> rename_i h <;> simp [h]
    all_goals omega
  | k + 1, v => by
    have ih := canL_mem s o nx ou ws os k v
    unfold canL
    rw [List.mem_append, ih]
    by_cases hv : v = (k : Int)
    · subst hv
      by_cases ha : ansB (mutX s o nx ou (k : Int)).1 (mutX s o nx ou (k : Int)).2 ws os = true
      · simp [ha]; omega
      · simp [ha]
    · have hm : v ∈ (if ansB (mutX s o nx ou (k : Int)).1 (mutX s o nx ou (k : Int)).2 ws os = true then [(k : Int)] else []) ↔ False := by
        split <;> simp [hv]
      rw [hm]
      constructor
      · rintro ((h | ⟨h, h'⟩) | h)
        · exact .inl h
        · exact .inr ⟨⟨h.1, by omega⟩, h'⟩
        · exact h.elim
      · rintro (h | ⟨h, h'⟩)
        · exact .inl (.inl h)
        · exact .inl (.inr ⟨⟨h.1, by omega⟩, h'⟩)

/-- Is a number among the first ones? -/
def fnd (l : List Int) (k : Int) (i : Nat) : Bool := decide (k ∈ l.take i)
theorem fnd_succ {l : List Int} {k : Int} {i : Nat} (h : i < l.length) : fnd l k (i + 1) = (fnd l k i || decide (l[i] = k)) := by
  unfold fnd
  rw [List.take_succ_eq_append_getElem h]
  by_cases a : k ∈ l.take i <;> by_cases b : k = l[i] <;> simp only [List.mem_append, List.mem_singleton, a, b, eq_comm, true_or, or_true, false_or, or_false, decide_true, decide_false, Bool.true_or, Bool.or_true, Bool.false_or] <;> first | rfl | simp [Ne.symm (a := k) b] | skip
theorem fnd_all (l : List Int) (k : Int) : fnd l k l.length = decide (k ∈ l) := by simp [fnd]
end Go.Proofs.Ytkaffmojojnhhaa
