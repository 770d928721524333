/- Words read from texts; slices of texts in a walk. No condition but bounds. -/
import Derived.Test.YtffmlijngfhhaaaGreatDoorWa
import Derived.Test.YtffmlijngfhhaaaGreatDoorFwX
namespace Go.Proofs.YtffmlijngfhhaaaGreatDoor
open Go
attribute [local irreducible] awp awpL awpQL awpQ awpM pWalk Qt AC thenQ blockQ loopQ OpTo
set_option linter.unusedVariables false
set_option linter.unusedSimpArgs false
set_option maxHeartbeats 2000000
attribute [local irreducible] HC

section
variable {cx : Cx} {h : Heap} {s : Nat → SV} {dst : Option Nat} {ty : Nat} {pos : String} {af : Array Edge} {gd : Option (Nat × Bool)}
end
end Go.Proofs.YtffmlijngfhhaaaGreatDoor

/-! Texts cut at blanks, in plain words; the reference's l01Split at a blank. Condition: the text is no longer than a million. -/
namespace Go.Proofs.YtffmlijngfhhaaaGreatDoor
open Go
attribute [local irreducible] awp awpL awpQL awpQ awpM pWalk Qt AC thenQ blockQ loopQ OpTo
set_option linter.unusedVariables false
set_option linter.unusedSimpArgs false
set_option maxHeartbeats 2000000
attribute [local irreducible] HC

/-! ### Plain -/
def bls : List UInt8 → List (List UInt8)
  | [] => [[]]
  | c :: r => if c = 32 then [] :: bls r else match bls r with
    | [] => [[c]]
    | h :: t => (c :: h) :: t
theorem bls_ne (l : List UInt8) : bls l ≠ [] := by
  cases l with
  | nil => simp [bls]
  | cons c r =>
    unfold bls
    split
    · simp
    · split <;> simp
theorem bls_no {l : List UInt8} (h : ∀ c ∈ l, c ≠ 32) : bls l = [l] := by
  induction l with
  | nil => rfl
  | cons c r ih =>
    rw [bls, if_neg (h c (by simp)), ih fun x hx => h x (by simp [hx])]
theorem bls_at {a b : List UInt8} (h : ∀ c ∈ a, c ≠ 32) : bls (a ++ 32 :: b) = a :: bls b := by
  induction a with
  | nil => simp [bls]
  | cons c r ih =>
    rw [List.cons_append, bls, if_neg (h c (by simp)), ih fun x hx => h x (by simp [hx])]
/-- The pieces, joined, are the text. -/
theorem bls_join (l : List UInt8) : ∀ init last, bls l = init ++ [last] → (init.flatMap fun p => p ++ [32]) ++ last = l := by
  induction l with
  | nil =>
    intro init last h
    cases init with
    | nil => simp [bls] at h; simp [h]
    | cons p q => cases q <;> simp [bls] at h
  | cons c r ih =>
    intro init last h
    rw [bls] at h
    by_cases hc : c = 32
    · rw [if_pos hc] at h
      cases init with
      | nil =>
        simp only [List.nil_append, List.cons.injEq] at h
        exact absurd h.2 (bls_ne r)
      | cons p q =>
        simp only [List.cons_append, List.cons.injEq] at h
        have := ih q last h.2
        rw [← h.1]
        simp only [List.flatMap_cons, List.nil_append, List.cons_append, List.append_assoc]
        rw [this, hc]
    · rw [if_neg hc] at h
      cases hr : bls r with
      | nil => exact absurd hr (bls_ne r)
      | cons p q =>
        rw [hr] at h
        simp only at h
        cases init with
        | nil =>
          simp only [List.nil_append, List.cons.injEq] at h
          have := ih [] p (by rw [hr, h.2]; rfl)
          rw [← h.1]
          simpa using this
        | cons x y =>
          simp only [List.cons_append, List.cons.injEq] at h
          have := ih (p :: y) last (by rw [hr, h.2]; rfl)
          rw [← h.1]
          simp only [List.flatMap_cons, List.cons_append, List.append_assoc] at this ⊢
          rw [this]

theorem bls_len (l : List UInt8) : (bls l).length ≤ l.length + 1 := by
  induction l with
  | nil => simp [bls]
  | cons c r ih =>
    rw [bls]
    split
    · simp; exact ih
    · split
      · simp
      · rename_i h t e
        rw [e] at ih
        simp at ih ⊢
        omega

end Go.Proofs.YtffmlijngfhhaaaGreatDoor
