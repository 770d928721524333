/- A row of one's own is put into the place from which a row was taken. No condition. -/
import Derived.Test.YtffmlijngfhhaaaGreatDoorFwT
namespace Go.Proofs.YtffmlijngfhhaaaGreatDoor
open Go
open Go.RowKit (Below)
set_option linter.unusedVariables false
set_option linter.unusedSimpArgs false
section
variable {cx : Cx} {ops : Array Oper} {s : Slots} {h : Heap} {Q : Exit → Slots → Heap → Prop} {dst : Option Nat} {t ty : Nat} {pos : String} {af : Array Edge} {gd : Option (Nat × Bool)}

/-- The heap in another order. -/
theorem awp_permTo {cx : Cx} {c : Code} {s : Slots} {h : Heap} {Q : Exit → Slots → Heap → Prop} (H0 : Heap) (hp : sortH h = sortH H0) (hn : awp cx c s H0 Q) : awp cx c s h Q := fun a w hr => hn a w (R_perm ((perm_of_sort hp).trans (perm_of_sort (rfl : sortH H0 = sortH H0)).symm) hr)

end
end Go.Proofs.YtffmlijngfhhaaaGreatDoor

/-! Rows with tags: a row of rows of one's own is read as data whose rows bear the number of their blocks; at the end what bears numbers may be one's own again. No condition. -/
namespace Go.Proofs.YtffmlijngfhhaaaGreatDoor
open Go
open Go.RowKit (Below)
set_option linter.unusedVariables false
set_option linter.unusedSimpArgs false

/-! ### Tags may be forgotten -/
inductive D.Le : D → D → Prop
  | refl (x : D) : D.Le x x
  | tag (b e sz : Nat) (xs : List D) : D.Le (.rowb b e sz xs) (.lst xs)
  | nil : D.Le .nils (.lst [])
  | lst (xs ys : List D) : xs.length = ys.length → (∀ (i : Nat) x y, xs[i]? = some x → ys[i]? = some y → D.Le x y) → D.Le (.lst xs) (.lst ys)

theorem RepD.le {ok : Nat → Prop} {w : World} {x y : D} (hl : D.Le x y) : ∀ {v : Value}, RepD ok w v x → RepD ok w v y := by
  induction hl with
  | refl x => exact fun h => h
  | tag b e sz xs =>
    intro v h
    cases h with
    | rowb b cap n cells e xs vs sz h1 h2 h3 h4 h5 h5b h5c h5d h6 h7 =>
      exact .lst b 0 cap n cells e (0, 0) xs vs sz h1 h2 h3 h4 h5 (by have : cap ≤ maxLen := h5b; simp only [maxLen] at this; omega) h6 fun i v hv => ⟨(h7 i v hv).1, fun j hj => by rw [Nat.zero_add]; exact (h7 i v hv).2 j hj⟩
  | nil =>
    intro v h
    rw [RepD.nils_inv h]
    exact .nil0
  | lst xs ys hl _ ih =>
    intro v h
    cases h with
    | nil0 =>
      have : ys = [] := List.eq_nil_of_length_eq_zero (by simpa using hl.symm)
      subst this
      exact .nil0
    | emp a cap =>
      have : ys = [] := List.eq_nil_of_length_eq_zero (by simpa using hl.symm)
      subst this
      exact .emp a cap
    | lst b off cap n cells e fr xs vs sz h1 h2 h3 h4 h5 h5b h6 h7 =>
      refine .lst b off cap n cells e fr ys vs sz h1 h2 (h3.trans hl) (h4.trans hl) h5 h5b (fun i v y hv hy => ?_) h7
      have hi : i < ys.length := by
        rcases Nat.lt_or_ge i ys.length with h | h
        · exact h
        · simp [h] at hy
      have hx : xs[i]? = some (xs[i]'(by omega)) := List.getElem?_eq_getElem (by omega)
      exact ih i _ _ hx hy (h6 i v _ hv hx)

/-- What a function answers data it answers the same data with tags. -/
theorem AC.le {P : Program} {f : Nat} {xs ys : List D} {r : D} (h : AC P f ys r) (hl : xs.length = ys.length) (hle : ∀ (i : Nat) x y, xs[i]? = some x → ys[i]? = some y → D.Le x y) : AC P f xs r :=
  ⟨h.1, fun w ok vs he hok hr => h.2 w ok vs he hok ⟨hr.1.trans hl, fun i v y hv hy => by
    have hi : i < ys.length := by
      rcases Nat.lt_or_ge i ys.length with h | h
      · exact h
      · simp [h] at hy
    have hx : xs[i]? = some (xs[i]'(by omega)) := List.getElem?_eq_getElem (by omega)
    exact (hr.2 i v _ hv hx).le (hle i _ _ hx hy)⟩⟩

/-! ### Tags -/
section
variable {cx : Cx} {ops : Array Oper} {s : Slots} {h : Heap} {Q : Exit → Slots → Heap → Prop}

/-! ### At the end -/
/-! ### One row gets a tag -/
end
end Go.Proofs.YtffmlijngfhhaaaGreatDoor
