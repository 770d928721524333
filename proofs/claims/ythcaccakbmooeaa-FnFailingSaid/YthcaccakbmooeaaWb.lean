/- Contracts of what the laws' package does with its arguments: sizes, copies, comparisons of lists of numbers and of lists of such lists. No condition. -/
import Derived.Test.YthcaccakbmooeaaTab
import Derived.Test.YthcaccakbmooeaaFwL
import Derived.Test.YthcaccakbmooeaaFwT
namespace Go.Proofs.Ythcaccakbmooeaa
open Go
attribute [local irreducible] awp awpL awpQL awpQ awpM pWalk Qt AC thenQ blockQ loopQ OpTo
set_option linter.unusedVariables false
set_option linter.unusedSimpArgs false
set_option maxHeartbeats 2000000

theorem el_int {ns : List Int} {k : Nat} (h : k < ns.length) : (ns.map (D.int .i64))[(k : Int).toNat]? = some (.int .i64 ns[k]) := by simp [h]
theorem el_row {nss : List (List Int)} {k : Nat} (h : k < nss.length) : (nss.map ints)[(k : Int).toNat]? = some (ints nss[k]) := by simp [h]

/-- What is left of a budget behind n; -1 if there is not so much. -/
def szL (n : Nat) (left : Int) : Int := if left - n < 0 then -1 else left - n
/-- The same behind a list of lists. -/
def szLs (left : Int) : List (List Int) → Int
  | [] => left
  | ns :: nss => if left - (ns.length : Int) < 0 then -1 else szLs (left - ns.length) nss
def szR (nss : List (List Int)) (left : Int) : Int := if left - (nss.length : Int) < 0 then -1 else szLs (left - nss.length) nss

theorem szL_le {n : Nat} {left : Int} (h : 0 ≤ left) : szL n left ≤ left ∧ (0 ≤ szL n left → (n : Int) ≤ left) := by
  unfold szL
  split <;> omega
theorem szLs_ok : ∀ {nss : List (List Int)} {left : Int}, 0 ≤ left → szLs left nss ≤ left ∧ (0 ≤ szLs left nss → ∀ ns ∈ nss, (ns.length : Int) ≤ left)
  | [], left, h => ⟨Int.le_refl _, by simp⟩
  | ns :: nss, left, h => by
    unfold szLs
    split
    · exact ⟨by omega, by omega⟩
    · obtain ⟨h1, h2⟩ := szLs_ok (nss := nss) (left := left - ns.length) (by omega)
      refine ⟨by omega, fun h3 m hm => ?_⟩
      rcases List.mem_cons.1 hm with rfl | hm
      · omega
      · have := h2 h3 m hm; omega
theorem szR_ok {nss : List (List Int)} {left : Int} (h : 0 ≤ left) : szR nss left ≤ left ∧ (0 ≤ szR nss left → (nss.length : Int) ≤ left ∧ ∀ ns ∈ nss, (ns.length : Int) ≤ left) := by
  unfold szR
  split
  · omega
  · obtain ⟨h1, h2⟩ := szLs_ok (nss := nss) (left := left - nss.length) (by omega)
    refine ⟨by omega, fun h3 => ⟨by omega, fun ns hn => ?_⟩⟩
    have := h2 h3 ns hn
    omega

/-- A row that is filled up to its k-th element. -/
def upTo {α : Type} (z : α) (xs : List α) (k : Nat) : List α := xs.take k ++ List.replicate (xs.length - k) z
theorem upTo_zero {α : Type} (z : α) (xs : List α) : upTo z xs 0 = List.replicate xs.length z := by simp [upTo]
theorem upTo_all {α : Type} (z : α) (xs : List α) : upTo z xs xs.length = xs := by simp [upTo]
theorem upTo_length {α : Type} (z : α) (xs : List α) (k : Nat) (h : k ≤ xs.length) : (upTo z xs k).length = xs.length := by simp [upTo]; omega
theorem upTo_get {α : Type} (z : α) (xs : List α) (k i : Nat) (hk : k ≤ xs.length) : (upTo z xs k)[i]? = if i < k then xs[i]? else if i < xs.length then some z else none := by
  unfold upTo
  have hl : (xs.take k).length = k := by rw [List.length_take]; omega
  by_cases h1 : i < k
  · rw [List.getElem?_append_left (by omega), List.getElem?_take, if_pos h1, if_pos h1]
  · rw [List.getElem?_append_right (by omega), hl, if_neg h1, List.getElem?_replicate]
    by_cases h2 : i < xs.length
    · rw [if_pos (by omega), if_pos h2]
    · rw [if_neg (by omega), if_neg h2]
theorem upTo_set {α : Type} (z : α) (xs : List α) (k : Nat) (h : k < xs.length) : (upTo z xs k).set k xs[k] = upTo z xs (k + 1) := by
  apply List.ext_getElem?
  intro i
  have hl : (upTo z xs k).length = xs.length := upTo_length z xs k (by omega)
  rw [upTo_get z xs (k + 1) i (by omega)]
  by_cases e : k = i
  · subst e
    rw [List.getElem?_set_self (by omega), if_pos (by omega), List.getElem?_eq_getElem h]
  · rw [List.getElem?_set_ne e, upTo_get z xs k i (by omega)]
    by_cases h1 : i < k
    · rw [if_pos h1, if_pos (show i < k + 1 by omega)]
    · rw [if_neg h1, if_neg (show ¬ i < k + 1 by omega)]

theorem eq_step {α : Type} [DecidableEq α] {a b : List α} {k : Nat} (ha : k < a.length) (hb : k < b.length) (ht : a.take k = b.take k) : a[k] = b[k] → a.take (k + 1) = b.take (k + 1) := fun h => by
  rw [List.take_succ_eq_append_getElem ha, List.take_succ_eq_append_getElem hb, ht, h]

end Go.Proofs.Ythcaccakbmooeaa
