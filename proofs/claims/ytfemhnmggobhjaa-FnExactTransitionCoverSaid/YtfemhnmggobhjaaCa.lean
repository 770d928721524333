/- The search for a word that tells two machines apart: plain facts. No condition. -/
import Derived.Test.YtfemhnmggobhjaaNg
import Derived.Test.YtfemhnmggobhjaaFwV
import Derived.Test.YtfemhnmggobhjaaFy
import Derived.Test.YtfemhnmggobhjaaNh
namespace Go.Proofs.Ytfemhnmggobhjaa
open Go
attribute [local irreducible] awp awpL awpQL awpQ awpM pWalk Qt AC thenQ blockQ loopQ OpTo
set_option linter.unusedVariables false
set_option linter.unusedSimpArgs false
set_option maxHeartbeats 2000000
attribute [local irreducible] HC

theorem nodupLe : ∀ (N : Nat) (l : List Nat), l.Nodup → (∀ x ∈ l, x < N) → l.length ≤ N
  | 0, l, _, h => by
    cases l with
    | nil => simp
    | cons a l => have := h a (List.mem_cons_self ..); omega
  | N + 1, l, hn, h => by
    have h1 := nodupLe N (l.erase N) (hn.erase N) fun x hx => by
      have := hn.mem_erase_iff.1 hx
      have := h x this.2
      omega
    have := List.length_erase (a := N) (l := l)
    split at this <;> omega

abbrev PL := List (Nat × List Int)
def addP (L : PL) (c : Nat) (w : List Int) : PL := if c ∈ L.map (·.1) then L else L ++ [(c, w)]
structure POk (s s' : Int) (L : PL) : Prop where
  nd : (L.map (·.1)).Nodup
  lt : ∀ p ∈ L, ((p.1 / 16 : Nat) : Int) < s ∧ ((p.1 % 16 : Nat) : Int) < s'
  wl : ∀ p ∈ L, p.2.length < L.length

theorem POk.len {s s' : Int} {L : PL} (hs : s ≤ 10) (hs' : s' ≤ 10) (h : POk s s' L) : L.length ≤ 160 := by
  have := nodupLe 160 (L.map (·.1)) h.nd fun x hx => by
    obtain ⟨p, hp, rfl⟩ := List.mem_map.1 hx
    have := h.lt p hp
    omega
  simpa using this

theorem addP_pre (L : PL) (c : Nat) (w : List Int) : ∃ t, addP L c w = L ++ t := by
  unfold addP
  split
  · exact ⟨[], by simp⟩
  · exact ⟨_, rfl⟩
section
variable {s o s' o' : Int} {nx ou nx' ou' : List (List Int)}
end

/-! ### The words by pairs -/
end Go.Proofs.Ytfemhnmggobhjaa

/-! The search for a word that tells two machines apart, in the program. No condition. -/
namespace Go.Proofs.Ytfemhnmggobhjaa
open Go
attribute [local irreducible] awp awpL awpQL awpQ awpM pWalk Qt AC thenQ blockQ loopQ OpTo
set_option linter.unusedVariables false
set_option linter.unusedSimpArgs false
set_option maxHeartbeats 2000000
attribute [local irreducible] HC

end Go.Proofs.Ytfemhnmggobhjaa

/-! The search for a word that tells two machines apart, in the reference. No condition. -/
namespace Go.Proofs.Ytfemhnmggobhjaa
open Go
attribute [local irreducible] awp awpL awpQL awpQ awpM pWalk Qt AC thenQ blockQ loopQ OpTo
set_option linter.unusedVariables false
set_option linter.unusedSimpArgs false
set_option maxHeartbeats 2000000
attribute [local irreducible] HC

def prL (L : PL) : List (List Int) := L.map fun p => [((p.1 / 16 : Nat) : Int), ((p.1 % 16 : Nat) : Int)]
def wdL (L : PL) : List (List Int) := L.map fun p => p.2


@[simp] theorem prL_length (L : PL) : (prL L).length = L.length := by simp [prL]
@[simp] theorem wdL_length (L : PL) : (wdL L).length = L.length := by simp [wdL]
theorem mem_prL {c : Nat} {L : PL} : [((c / 16 : Nat) : Int), ((c % 16 : Nat) : Int)] ∈ prL L ↔ c ∈ L.map (·.1) := by
  unfold prL
  constructor
  · intro h
    obtain ⟨p, hp, e⟩ := List.mem_map.1 h
    simp only [List.cons.injEq, and_true] at e
    exact List.mem_map.2 ⟨p, hp, by omega⟩
  · intro h
    obtain ⟨p, hp, e⟩ := List.mem_map.1 h
    exact List.mem_map.2 ⟨p, hp, by subst e; rfl⟩

end Go.Proofs.Ytfemhnmggobhjaa

/-! CoverageOf, in the reference and in the program, and its law. No condition. -/
namespace Go.Proofs.Ytfemhnmggobhjaa
open Go
attribute [local irreducible] awp awpL awpQL awpQ awpM pWalk Qt AC thenQ blockQ loopQ OpTo
set_option linter.unusedVariables false
set_option linter.unusedSimpArgs false
set_option maxHeartbeats 2000000
attribute [local irreducible] HC

section
variable {s o s' o' : Int} {nx ou nx' ou' : List (List Int)}
end

end Go.Proofs.Ytfemhnmggobhjaa

/-! A search that finds no word: the two machines have the same outputs for all words. No condition. -/
namespace Go.Proofs.Ytfemhnmggobhjaa
open Go
attribute [local irreducible] awp awpL awpQL awpQ awpM pWalk Qt AC thenQ blockQ loopQ OpTo
set_option linter.unusedVariables false
set_option linter.unusedSimpArgs false
set_option maxHeartbeats 2000000
attribute [local irreducible] HC

section
variable {s o s' o' : Int} {nx ou nx' ou' : List (List Int)}
end
end Go.Proofs.Ytfemhnmggobhjaa
