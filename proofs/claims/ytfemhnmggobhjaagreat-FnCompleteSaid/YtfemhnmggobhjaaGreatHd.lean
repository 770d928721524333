/- The law of Best. No condition. -/
import Derived.Test.YtfemhnmggobhjaaGreatHa
import Derived.Test.YtfemhnmggobhjaaGreatPe
namespace Go.Proofs.YtfemhnmggobhjaaGreat
open Go
attribute [local irreducible] awp awpL awpQL awpQ awpM pWalk Qt AC thenQ blockQ loopQ OpTo
set_option linter.unusedVariables false
set_option linter.unusedSimpArgs false
set_option maxHeartbeats 2000000
attribute [local irreducible] HC
theorem wN_surj {n : Nat} (hn : 1 <= n) : ∀ (k : Nat) (v : List Int), v.length = k -> (∀ l ∈ v, 0 <= l /\ l < n) -> ∃ i, wN n i = v
  | 0, v, hl, _ => ⟨0, by rw [wN_zero, List.eq_nil_of_length_eq_zero hl]⟩
  | k + 1, v, hl, h => by
    have hne : v ≠ [] := fun e => by subst e; simp at hl
    have hs := List.dropLast_concat_getLast hne
    obtain ⟨i, hi⟩ := wN_surj hn k v.dropLast (by simp [hl]) fun l hl => h l ((List.dropLast_sublist v).subset hl)
    have hx := h _ (List.getLast_mem hne)
    refine ⟨1 + n * i + (v.getLast hne).toNat, ?_⟩
    rw [wN_next (by omega), hi, show ((v.getLast hne).toNat : Int) = v.getLast hne by omega]
    exact hs
theorem lenW_all {n m : Nat} (hn : 1 <= n) {v : List Int} (hl : v.length = m) (h : ∀ l ∈ v, 0 <= l /\ l < n) : ∃ j : Nat, (lenW n m)[j]? = some v := by
  obtain ⟨i, rfl⟩ := wN_surj hn m v hl h
  have hi : i < gN n (m + 1) := (wN_lt hn (m + 1) i).1 (by omega)
  have hm : wN n i ∈ lenW n m := by
    unfold lenW
    exact List.mem_filter.2 ⟨List.mem_map.2 ⟨i, List.mem_range.2 hi, rfl⟩, by simp [hl]⟩
  exact List.mem_iff_getElem?.1 hm
section
variable {s o : Int} {nx ou : List (List Int)}
end
section
variable {s o : Int} {nx ou ws : List (List Int)}
theorem impl_CoverageOfV (m : MV s o nx ou) (h : SuOk nx.length ws) : AC Tryz.prog 35 [mach s o nx ou, rows ws] (.tup [.int .i64 (kilL s o nx ou ws (mutN s o nx.length).toNat).length, .int .i64 (sameC s o nx ou (mutN s o nx.length).toNat), .int .i64 (mutN s o nx.length - (kilL s o nx ou ws (mutN s o nx.length).toNat).length - sameC s o nx ou (mutN s o nx.length).toNat), .int .i64 0]) := by
  have := impl_CoverageOf (s := s) (o := o) m.rnx m.rou (h.rows (by have := m.n1; omega))
  unfold covD at this
  rwa [if_pos (machOk_mv m), if_pos (suiteOk_su h)] at this
end
end Go.Proofs.YtfemhnmggobhjaaGreat
