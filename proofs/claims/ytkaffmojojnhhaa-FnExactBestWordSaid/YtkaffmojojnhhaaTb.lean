/- Which words stay in a suite: plain facts, and the reference. No condition. -/
import Derived.Test.YtkaffmojojnhhaaTa
import Derived.Test.YtkaffmojojnhhaaFz
namespace Go.Proofs.Ytkaffmojojnhhaa
open Go
attribute [local irreducible] awp awpL awpQL awpQ awpM pWalk Qt AC thenQ blockQ loopQ OpTo
set_option linter.unusedVariables false
set_option linter.unusedSimpArgs false
set_option maxHeartbeats 2000000
attribute [local irreducible] HC
open Go.RowKit (Below)

/-- Does the word kill a mutant that no other kept one kills? -/
def othB (F : Nat → Nat → Bool) (K : Nat → Bool) (a k i : Nat) : Bool := decide (i = a) || (!K i || !F i k)
def aloB (F : Nat → Nat → Bool) (K : Nat → Bool) (a k n : Nat) : Bool := F a k && (List.range n).all fun i => othB F K a k i
def need (N M : Nat) (F : Nat → Nat → Bool) (K : Nat → Bool) (a : Nat) : Bool := (List.range M).any fun k => aloB F K a k N
def kp (N M : Nat) (F : Nat → Nat → Bool) : Nat → Nat → Bool
  | 0, _ => true
  | j + 1, i => if i = N - 1 - j then need N M F (kp N M F j) (N - 1 - j) else kp N M F j i
def kepL (ws : List (List Int)) (K : Nat → Bool) : Nat → List (List Int)
  | 0 => []
  | i + 1 => kepL ws K i ++ if K i then [ws.getD i []] else []
theorem aloB_succ {F : Nat → Nat → Bool} {K : Nat → Bool} {a k n : Nat} : aloB F K a k (n + 1) = (aloB F K a k n && othB F K a k n) := by
  unfold aloB
  rw [List.range_succ, List.all_append]
  simp [Bool.and_assoc]
theorem aloB_false {F : Nat → Nat → Bool} {K : Nat → Bool} {a k : Nat} : ∀ {n : Nat} (e : Nat), aloB F K a k n = false → aloB F K a k (n + e) = false
  | _, 0, h => h
  | n, e + 1, h => by rw [← Nat.add_assoc, aloB_succ, aloB_false e h, Bool.false_and]
theorem kepL_len {ws : List (List Int)} {K : Nat → Bool} : ∀ n, (kepL ws K n).length ≤ n
  | 0 => Nat.le_refl _
  | n + 1 => by
    have := kepL_len (ws := ws) (K := K) n
    unfold kepL
    rw [List.length_append]
    split <;> simp <;> omega
theorem kepL_mem {ws : List (List Int)} {K : Nat → Bool} : ∀ {n : Nat}, n ≤ ws.length → ∀ w ∈ kepL ws K n, w ∈ ws
  | 0, _, _, h => by cases h
  | n + 1, hn, w, h => by
    unfold kepL at h
    rcases List.mem_append.1 h with h | h
    · exact kepL_mem (by omega) w h
    · split at h
      · simp only [List.mem_singleton] at h
        subst h
        rw [List.getD_eq_getElem?_getD, List.getElem?_eq_getElem (by omega), Option.getD_some]
        exact List.getElem_mem _
      · cases h

/-- What ShrinkSuite answers. -/
def shF (s o : Int) (nx ou ws : List (List Int)) : Nat → Bool := kp ws.length (mutN s o nx.length).toNat (kW s o nx ou ws) ws.length
def shD (s o : Int) (nx ou ws : List (List Int)) : List (List Int) × Int :=
  if machOk s o nx ou then (if suiteOk nx.length ws then (kepL ws (shF s o nx ou ws) ws.length, 0) else ([], 2)) else ([], 1)

theorem rowB_kp {N M : Nat} {F : Nat → Nat → Bool} {j : Nat} : (rowB N (kp N M F j)).set (N - 1 - j) (.bool (need N M F (kp N M F j) (N - 1 - j))) = rowB N (kp N M F (j + 1)) := by
  rw [rowB_set]
  rfl

end Go.Proofs.Ytkaffmojojnhhaa
