/- Plain facts of depths: the least number of rounds in which a set becomes known. No condition. -/
import Derived.Test.YtkomkhigcdkpdaaSg
namespace Go.Proofs.Ytkomkhigcdkpdaa
open Go
attribute [local irreducible] awp awpL awpQL awpQ awpM pWalk Qt AC thenQ blockQ loopQ OpTo
set_option linter.unusedVariables false
set_option linter.unusedSimpArgs false
set_option maxHeartbeats 2000000
attribute [local irreducible] HC

/-- The depth of f within d rounds, -1 if it has none. 'sm': what is known at once; 'bel f x y': what is believed behind x and y. -/
def dv (sm : Nat → Bool) (bel : Nat → Nat → Nat → Nat) (n L : Nat) : Nat → Nat → Int
  | 0, f => if sm f then 0 else -1
  | d + 1, f => if 0 ≤ dv sm bel n L d f then dv sm bel n L d f else if (List.range n).any (fun x => (List.range L).all fun y => decide (0 ≤ dv sm bel n L d (bel f x y))) then ((d + 1 : Nat) : Int) else -1

section
variable {sm : Nat → Bool} {bel : Nat → Nat → Nat → Nat} {n L : Nat}

theorem dv_range : ∀ (d f : Nat), dv sm bel n L d f = -1 ∨ (0 ≤ dv sm bel n L d f ∧ dv sm bel n L d f ≤ d)
  | 0, f => by unfold dv; split <;> simp
  | d + 1, f => by
    unfold dv
    split
    · rename_i h
      rcases dv_range d f with h1 | h1
      · omega
      · right; omega
    · split
      · right; omega
      · left; rfl

theorem dv_up {d f : Nat} (h : 0 ≤ dv sm bel n L d f) : ∀ e, dv sm bel n L (d + e) f = dv sm bel n L d f
  | 0 => rfl
  | e + 1 => by
    have ih := dv_up h e
    show dv sm bel n L (d + e + 1) f = _
    conv => lhs; unfold dv
    rw [ih, if_pos h]

/-- A round that finds nothing more is the last. -/
theorem dv_still {S : Nat → Prop} (hS : ∀ f x y, S f → x < n → y < L → S (bel f x y)) {d : Nat} (h : ∀ f, S f → dv sm bel n L (d + 1) f = dv sm bel n L d f) : ∀ e f, S f → dv sm bel n L (d + e) f = dv sm bel n L d f
  | 0, f, _ => rfl
  | e + 1, f, hf => by
    have ih := dv_still hS h e
    have key : dv sm bel n L (d + e + 1) f = dv sm bel n L (d + 1) f ∨ dv sm bel n L (d + e + 1) f = dv sm bel n L d f := by
      by_cases h0 : 0 ≤ dv sm bel n L (d + e) f
      · right
        have : dv sm bel n L (d + e + 1) f = dv sm bel n L (d + e) f := by
          conv => lhs; unfold dv
          rw [if_pos h0]
        rw [this, ih f hf]
      · have hd : ¬ 0 ≤ dv sm bel n L d f := by rw [← ih f hf]; exact h0
        have hn : dv sm bel n L (d + 1) f = dv sm bel n L d f := h f hf
        have hneg : dv sm bel n L d f = -1 := by
          rcases dv_range (sm := sm) (bel := bel) (n := n) (L := L) d f with h1 | h1
          · exact h1
          · exact absurd h1.1 hd
        right
        have hno : ¬ ((List.range n).any (fun x => (List.range L).all fun y => decide (0 ≤ dv sm bel n L d (bel f x y))) = true) := by
          intro ha
          have : dv sm bel n L (d + 1) f = ((d + 1 : Nat) : Int) := by
            conv => lhs; unfold dv
            rw [if_neg hd, if_pos ha]
          rw [hn, hneg] at this
          omega
        have hno2 : ¬ ((List.range n).any (fun x => (List.range L).all fun y => decide (0 ≤ dv sm bel n L (d + e) (bel f x y))) = true) := by
          intro ha
          apply hno
          rw [List.any_eq_true] at ha ⊢
          obtain ⟨x, hx, hal⟩ := ha
          refine ⟨x, hx, ?_⟩
          rw [List.all_eq_true] at hal ⊢
          intro y hy
          have := hal y hy
          rwa [ih _ (hS f x y hf (List.mem_range.1 hx) (List.mem_range.1 hy))] at this
        conv => lhs; unfold dv
        rw [if_neg h0, if_neg hno2, hneg]
    rcases key with h1 | h1
    · exact (show dv sm bel n L (d + (e + 1)) f = _ from h1).trans (h f hf)
    · exact h1

/-- Two counts of rounds, each the last: the depths are the same. -/
theorem dv_same {S S' : Nat → Prop} (hS : ∀ f x y, S f → x < n → y < L → S (bel f x y)) (hS' : ∀ f x y, S' f → x < n → y < L → S' (bel f x y)) {d e : Nat} (hd : ∀ f, S f → dv sm bel n L (d + 1) f = dv sm bel n L d f)
    (he : ∀ f, S' f → dv sm bel n L (e + 1) f = dv sm bel n L e f) {f : Nat} (h1 : S f) (h2 : S' f) : dv sm bel n L d f = dv sm bel n L e f := by
  have a := dv_still hS hd e f h1
  have b := dv_still hS' he d f h2
  rw [Nat.add_comm] at b
  exact a.symm.trans b
end
section
variable {sm : Nat → Bool} {bel : Nat → Nat → Nat → Nat} {n L : Nat}

theorem dv_pos_up {d g : Nat} (h : 0 ≤ dv sm bel n L d g) {D : Nat} (hD : d ≤ D) : dv sm bel n L D g = dv sm bel n L d g := by
  have := dv_up h (D - d)
  rwa [show d + (D - d) = D by omega] at this

/-- What is known within e rounds is what has a depth of at most e. -/
theorem dv_le {e g : Nat} : ∀ {D : Nat}, e ≤ D → (0 ≤ dv sm bel n L e g ↔ 0 ≤ dv sm bel n L D g ∧ dv sm bel n L D g ≤ e)
  | D, hD => by
    constructor
    · intro h
      rw [dv_pos_up h hD]
      rcases dv_range (sm := sm) (bel := bel) (n := n) (L := L) e g with h1 | h1
      · omega
      · exact h1
    · obtain ⟨k, rfl⟩ : ∃ k, D = e + k := ⟨D - e, by omega⟩
      clear hD
      induction k with
      | zero => exact fun h => h.1
      | succ k ih =>
        intro h
        by_cases h0 : 0 ≤ dv sm bel n L (e + k) g
        · have : dv sm bel n L (e + (k + 1)) g = dv sm bel n L (e + k) g := dv_pos_up h0 (by omega)
          rw [this] at h
          exact ih h
        · exfalso
          have : dv sm bel n L (e + (k + 1)) g = if (List.range n).any (fun x => (List.range L).all fun y => decide (0 ≤ dv sm bel n L (e + k) (bel g x y))) then ((e + k + 1 : Nat) : Int) else -1 := by
            show dv sm bel n L (e + k + 1) g = _
            conv => lhs; unfold dv
            rw [if_neg h0]
          rw [this] at h
          split at h <;> omega

/-- A letter with which a set is known behind one round more. -/
def good (sm : Nat → Bool) (bel : Nat → Nat → Nat → Nat) (n L d f x : Nat) : Bool := (List.range L).all fun y => decide (0 ≤ dv sm bel n L d (bel f x y))
theorem good_iff {d f x : Nat} : good sm bel n L d f x = true ↔ ∀ y, y < L → 0 ≤ dv sm bel n L d (bel f x y) := by
  unfold good
  rw [List.all_eq_true]
  exact ⟨fun h y hy => of_decide_eq_true (h y (List.mem_range.2 hy)), fun h y hy => decide_eq_true (h y (List.mem_range.1 hy))⟩

theorem dv_succ {d f : Nat} : dv sm bel n L (d + 1) f = if 0 ≤ dv sm bel n L d f then dv sm bel n L d f else if ∃ x, x < n ∧ good sm bel n L d f x = true then ((d + 1 : Nat) : Int) else -1 := by
  conv => lhs; unfold dv
  congr 1
  by_cases h : ∃ x, x < n ∧ good sm bel n L d f x = true
  · rw [if_pos h, if_pos]
    obtain ⟨x, hx, hg⟩ := h
    exact List.any_eq_true.2 ⟨x, List.mem_range.2 hx, hg⟩
  · rw [if_neg h, if_neg]
    intro hh
    obtain ⟨x, hx, hg⟩ := List.any_eq_true.1 hh
    exact h ⟨x, List.mem_range.1 hx, hg⟩

/-- A depth that is not zero: some letter leads to less, none to less than one less. -/
theorem dv_letter {D d f : Nat} (hd : dv sm bel n L D f = ((d + 1 : Nat) : Int)) (hL : 0 < L) : (∃ x, x < n ∧ good sm bel n L d f x = true) ∧ d < D ∧ ∀ x, x < n → ¬ ∀ y, y < L → 0 ≤ dv sm bel n L D (bel f x y) ∧ dv sm bel n L D (bel f x y) < d := by
  have hlt : d + 1 ≤ D := by
    rcases dv_range (sm := sm) (bel := bel) (n := n) (L := L) D f with h1 | h1 <;> omega
  have h1 : ¬ 0 ≤ dv sm bel n L d f := fun h => by
    have := (dv_le (by omega : d ≤ D)).1 h
    omega
  have h2 : 0 ≤ dv sm bel n L (d + 1) f := (dv_le hlt).2 (by omega)
  rw [dv_succ, if_neg h1] at h2
  have h3 : ∃ x, x < n ∧ good sm bel n L d f x = true := by
    by_cases h : ∃ x, x < n ∧ good sm bel n L d f x = true
    · exact h
    · rw [if_neg h] at h2; omega
  refine ⟨h3, by omega, fun x hx hy => ?_⟩
  match d, hd, h1, h2, hlt, hy with
  | 0, _, _, _, _, hy => have := hy 0 hL; omega
  | d + 1, _, h1, _, hlt, hy =>
    apply h1
    rw [dv_succ]
    split
    · assumption
    · rw [if_pos ⟨x, hx, good_iff.2 fun y hl => (dv_le (by omega : d ≤ D)).2 ⟨(hy y hl).1, by have := (hy y hl).2; omega⟩⟩]
      omega

/-- The first letter of which something is true. -/
def fstL (p : Nat → Bool) (n : Nat) (z : Int) : Int := match (List.range n).find? p with
  | some x => x
  | none => z
theorem fstL_none {p : Nat → Bool} {n : Nat} {z : Int} (h : ∀ x, x < n → p x = false) : fstL p n z = z := by
  unfold fstL
  rw [List.find?_eq_none.2 fun x hx => by simp [h x (List.mem_range.1 hx)]]
theorem range_find {p : Nat → Bool} {n x : Nat} (hx : x < n) (h1 : p x = true) (h2 : ∀ z, z < x → p z = false) : (List.range n).find? p = some x := by
  rw [List.find?_range_eq_some]
  exact ⟨h1, List.mem_range.2 hx, fun j hj => by simp [h2 j hj]⟩
theorem fstL_some {p : Nat → Bool} {n x : Nat} {z : Int} (hx : x < n) (h1 : p x = true) (h2 : ∀ z, z < x → p z = false) : fstL p n z = x := by
  unfold fstL
  rw [range_find hx h1 h2]
theorem fstL_congr {p q : Nat → Bool} {n : Nat} {z z' : Int} (h : ∀ x, x < n → p x = q x) (he : ∃ x, x < n ∧ p x = true) : fstL p n z = fstL q n z' := by
  have : (List.range n).find? p = (List.range n).find? q := by
    have key : ∀ l : List Nat, (∀ x ∈ l, x < n) → l.find? p = l.find? q := fun l => by
      induction l with
      | nil => intro _; rfl
      | cons a l ih =>
        intro hl
        simp only [List.find?_cons]
        rw [h a (hl a (List.mem_cons_self ..)), ih fun x hx => hl x (List.mem_cons_of_mem _ hx)]
    exact key _ fun x hx => List.mem_range.1 hx
  unfold fstL
  rw [← this]
  obtain ⟨x, hx, hp⟩ := he
  cases hf : (List.range n).find? p with
  | none => have := List.find?_eq_none.1 hf x (List.mem_range.2 hx); simp [hp] at this
  | some y => rfl
theorem fstL_mem {p : Nat → Bool} {n : Nat} {z : Int} (he : ∃ x, x < n ∧ p x = true) : ∃ x : Nat, fstL p n z = x ∧ x < n ∧ p x = true := by
  unfold fstL
  obtain ⟨x, hx, hp⟩ := he
  cases hf : (List.range n).find? p with
  | none => have := List.find?_eq_none.1 hf x (List.mem_range.2 hx); simp [hp] at this
  | some y => exact ⟨y, rfl, List.mem_range.1 (List.mem_of_find?_eq_some hf), List.find?_some hf⟩

/-- How many of a list have no depth within d rounds. -/
def unk (sm : Nat → Bool) (bel : Nat → Nat → Nat → Nat) (n L : Nat) (l : List Nat) (d : Nat) : Nat := (l.filter fun f => decide (dv sm bel n L d f < 0)).length
theorem filter_le {α : Type} {P Q : α → Bool} : ∀ {l : List α}, (∀ x ∈ l, Q x = true → P x = true) → (l.filter Q).length ≤ (l.filter P).length
  | [], _ => Nat.le_refl _
  | x :: l, h => by
    have ih := filter_le (P := P) (Q := Q) (l := l) fun y hy => h y (List.mem_cons_of_mem _ hy)
    have hx := h x (List.mem_cons_self ..)
    simp only [List.filter_cons]
    cases hq : Q x <;> cases hp : P x <;> simp_all <;> omega
theorem filter_lt {α : Type} {P Q : α → Bool} : ∀ {l : List α}, (∀ x ∈ l, Q x = true → P x = true) → (∃ x ∈ l, P x = true ∧ Q x = false) → (l.filter Q).length < (l.filter P).length
  | [], _, h => by obtain ⟨_, h, _⟩ := h; cases h
  | x :: l, h, he => by
    have hx := h x (List.mem_cons_self ..)
    have h' : ∀ y ∈ l, Q y = true → P y = true := fun y hy => h y (List.mem_cons_of_mem _ hy)
    have le := filter_le h'
    obtain ⟨y, hy, hp, hq⟩ := he
    rcases List.mem_cons.1 hy with e | e
    · subst e
      simp only [List.filter_cons, hp, hq]
      simp; omega
    · have lt := filter_lt h' ⟨y, e, hp, hq⟩
      simp only [List.filter_cons]
      cases hq : Q x <;> cases hp : P x <;> simp_all <;> omega
theorem unk_le {l : List Nat} {d : Nat} : unk sm bel n L l (d + 1) ≤ unk sm bel n L l d := filter_le fun f _ h => by
  have h := of_decide_eq_true h
  refine decide_eq_true ?_
  rcases dv_range (sm := sm) (bel := bel) (n := n) (L := L) d f with h1 | h1
  · omega
  · rw [dv_pos_up h1.1 (by omega : d ≤ d + 1)] at h; omega
theorem unk_lt {l : List Nat} {d : Nat} (he : ∃ f ∈ l, dv sm bel n L d f < 0 ∧ 0 ≤ dv sm bel n L (d + 1) f) : unk sm bel n L l (d + 1) < unk sm bel n L l d := filter_lt (fun f _ h => by
  have h := of_decide_eq_true h
  refine decide_eq_true ?_
  rcases dv_range (sm := sm) (bel := bel) (n := n) (L := L) d f with h1 | h1
  · omega
  · rw [dv_pos_up h1.1 (by omega : d ≤ d + 1)] at h; omega) (by
  obtain ⟨f, hf, h1, h2⟩ := he
  exact ⟨f, hf, decide_eq_true h1, by simp; omega⟩)
theorem unk_len {l : List Nat} {d : Nat} : unk sm bel n L l d ≤ l.length := List.length_filter_le ..
theorem dv_same1 {l : List Nat} {d : Nat} (h : ¬ ∃ f ∈ l, dv sm bel n L d f < 0 ∧ 0 ≤ dv sm bel n L (d + 1) f) : ∀ f ∈ l, dv sm bel n L (d + 1) f = dv sm bel n L d f := fun f hf => by
  rcases dv_range (sm := sm) (bel := bel) (n := n) (L := L) d f with h1 | h1
  · rcases dv_range (sm := sm) (bel := bel) (n := n) (L := L) (d + 1) f with h2 | h2
    · omega
    · exact absurd ⟨f, hf, by omega, h2.1⟩ h
  · exact dv_pos_up h1.1 (by omega)
end
theorem nodup_le : ∀ (N : Nat) (l : List Nat), l.Nodup → (∀ x ∈ l, x < N) → l.length ≤ N
  | 0, l, _, h => by
    cases l with
    | nil => simp
    | cons a l => have := h a (List.mem_cons_self ..); omega
  | N + 1, l, hn, h => by
    have h1 := nodup_le N (l.erase N) (hn.erase N) fun x hx => by
      have := hn.mem_erase_iff.1 hx
      have := h x this.2
      omega
    have := List.length_erase (a := N) (l := l)
    split at this <;> omega

end Go.Proofs.Ytkomkhigcdkpdaa
