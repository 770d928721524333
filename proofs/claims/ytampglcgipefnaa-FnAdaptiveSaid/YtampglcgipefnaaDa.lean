/- Plain facts of depths: the least number of rounds in which a set becomes known. No condition. -/
import Derived.Test.YtampglcgipefnaaSg
namespace Go.Proofs.Ytampglcgipefnaa
open Go
attribute [local irreducible] awp awpL awpQL awpQ awpM pWalk Qt AC thenQ blockQ loopQ OpTo
set_option linter.unusedVariables false
set_option linter.unusedSimpArgs false
set_option maxHeartbeats 2000000
attribute [local irreducible] HC

/-- The depth of f within d rounds, -1 if it has none. 'sm': what is known at once; 'bel f x y': what is believed behind x and y. -/
def dv (sm : Nat → Bool) (bel : Nat → Nat → Nat → Nat) (n L : Nat) : Nat → Nat → Int
  | 0, f => if sm f then 0 else -1
  | d + 1, f => if 0 ≤ dv sm bel n L d f then dv sm bel n L d f else if (List.range n).any (fun x => (List.range L).all fun y => decide (0 ≤ dv sm bel n L d (bel f x y))) then ((d + 1 : Nat) : Int) else -1

section
variable {sm : Nat → Bool} {bel : Nat → Nat → Nat → Nat} {n L : Nat}

theorem dv_range : ∀ (d f : Nat), dv sm bel n L d f = -1 ∨ (0 ≤ dv sm bel n L d f ∧ dv sm bel n L d f ≤ d)
  | 0, f => by unfold dv; split <;> simp
  | d + 1, f => by
    unfold dv
    split
    · rename_i h
      rcases dv_range d f with h1 | h1
      · omega
      · right; omega
    · split
      · right; omega
      · left; rfl

theorem dv_up {d f : Nat} (h : 0 ≤ dv sm bel n L d f) : ∀ e, dv sm bel n L (d + e) f = dv sm bel n L d f
  | 0 => rfl
  | e + 1 => by
    have ih := dv_up h e
    show dv sm bel n L (d + e + 1) f = _
    conv => lhs; unfold dv
    rw [ih, if_pos h]

/-- A round that finds nothing more is the last. -/
theorem dv_still {S : Nat → Prop} (hS : ∀ f x y, S f → x < n → y < L → S (bel f x y)) {d : Nat} (h : ∀ f, S f → dv sm bel n L (d + 1) f = dv sm bel n L d f) : ∀ e f, S f → dv sm bel n L (d + e) f = dv sm bel n L d f
  | 0, f, _ => rfl
  | e + 1, f, hf => by
    have ih := dv_still hS h e
    have key : dv sm bel n L (d + e + 1) f = dv sm bel n L (d + 1) f ∨ dv sm bel n L (d + e + 1) f = dv sm bel n L d f := by
      by_cases h0 : 0 ≤ dv sm bel n L (d + e) f
      · right
        have : dv sm bel n L (d + e + 1) f = dv sm bel n L (d + e) f := by
          conv => lhs; unfold dv
          rw [if_pos h0]
        rw [this, ih f hf]
      · have hd : ¬ 0 ≤ dv sm bel n L d f := by rw [← ih f hf]; exact h0
        have hn : dv sm bel n L (d + 1) f = dv sm bel n L d f := h f hf
        have hneg : dv sm bel n L d f = -1 := by
          rcases dv_range (sm := sm) (bel := bel) (n := n) (L := L) d f with h1 | h1
          · exact h1
          · exact absurd h1.1 hd
        right
        have hno : ¬ ((List.range n).any (fun x => (List.range L).all fun y => decide (0 ≤ dv sm bel n L d (bel f x y))) = true) := by
          intro ha
          have : dv sm bel n L (d + 1) f = ((d + 1 : Nat) : Int) := by
            conv => lhs; unfold dv
            rw [if_neg hd, if_pos ha]
          rw [hn, hneg] at this
          omega
        have hno2 : ¬ ((List.range n).any (fun x => (List.range L).all fun y => decide (0 ≤ dv sm bel n L (d + e) (bel f x y))) = true) := by
          intro ha
          apply hno
          rw [List.any_eq_true] at ha ⊢
          obtain ⟨x, hx, hal⟩ := ha
          refine ⟨x, hx, ?_⟩
          rw [List.all_eq_true] at hal ⊢
          intro y hy
          have := hal y hy
          rwa [ih _ (hS f x y hf (List.mem_range.1 hx) (List.mem_range.1 hy))] at this
        conv => lhs; unfold dv
        rw [if_neg h0, if_neg hno2, hneg]
    rcases key with h1 | h1
    · exact (show dv sm bel n L (d + (e + 1)) f = _ from h1).trans (h f hf)
    · exact h1

/-- Two counts of rounds, each the last: the depths are the same. -/
theorem dv_same {S S' : Nat → Prop} (hS : ∀ f x y, S f → x < n → y < L → S (bel f x y)) (hS' : ∀ f x y, S' f → x < n → y < L → S' (bel f x y)) {d e : Nat} (hd : ∀ f, S f → dv sm bel n L (d + 1) f = dv sm bel n L d f)
    (he : ∀ f, S' f → dv sm bel n L (e + 1) f = dv sm bel n L e f) {f : Nat} (h1 : S f) (h2 : S' f) : dv sm bel n L d f = dv sm bel n L e f := by
  have a := dv_still hS hd e f h1
  have b := dv_still hS' he d f h2
  rw [Nat.add_comm] at b
  exact a.symm.trans b
end
section
variable {sm : Nat → Bool} {bel : Nat → Nat → Nat → Nat} {n L : Nat}

theorem dv_pos_up {d g : Nat} (h : 0 ≤ dv sm bel n L d g) {D : Nat} (hD : d ≤ D) : dv sm bel n L D g = dv sm bel n L d g := by
  have := dv_up h (D - d)
  rwa [show d + (D - d) = D by omega] at this

/-- What is known within e rounds is what has a depth of at most e. -/
theorem dv_le {e g : Nat} : ∀ {D : Nat}, e ≤ D → (0 ≤ dv sm bel n L e g ↔ 0 ≤ dv sm bel n L D g ∧ dv sm bel n L D g ≤ e)
  | D, hD => by
    constructor
    · intro h
      rw [dv_pos_up h hD]
      rcases dv_range (sm := sm) (bel := bel) (n := n) (L := L) e g with h1 | h1
      · omega
      · exact h1
    · obtain ⟨k, rfl⟩ : ∃ k, D = e + k := ⟨D - e, by omega⟩
      clear hD
      induction k with
      | zero => exact fun h => h.1
      | succ k ih =>
        intro h
        by_cases h0 : 0 ≤ dv sm bel n L (e + k) g
        · have : dv sm bel n L (e + (k + 1)) g = dv sm bel n L (e + k) g := dv_pos_up h0 (by omega)
          rw [this] at h
          exact ih h
        · exfalso
          have : dv sm bel n L (e + (k + 1)) g = if (List.range n).any (fun x => (List.range L).all fun y => decide (0 ≤ dv sm bel n L (e + k) (bel g x y))) then ((e + k + 1 : Nat) : Int) else -1 := by
            show dv sm bel n L (e + k + 1) g = _
            conv => lhs; unfold dv
            rw [if_neg h0]
          rw [this] at h
          split at h <;> omega

/-- A letter with which a set is known behind one round more. -/
def good (sm : Nat → Bool) (bel : Nat → Nat → Nat → Nat) (n L d f x : Nat) : Bool := (List.range L).all fun y => decide (0 ≤ dv sm bel n L d (bel f x y))
theorem good_iff {d f x : Nat} : good sm bel n L d f x = true ↔ ∀ y, y < L → 0 ≤ dv sm bel n L d (bel f x y) := by
  unfold good
  rw [List.all_eq_true]
  exact ⟨fun h y hy => of_decide_eq_true (h y (List.mem_range.2 hy)), fun h y hy => decide_eq_true (h y (List.mem_range.1 hy))⟩

theorem dv_succ {d f : Nat} : dv sm bel n L (d + 1) f = if 0 ≤ dv sm bel n L d f then dv sm bel n L d f else if ∃ x, x < n ∧ good sm bel n L d f x = true then ((d + 1 : Nat) : Int) else -1 := by
  conv => lhs; unfold dv
  congr 1
  by_cases h : ∃ x, x < n ∧ good sm bel n L d f x = true
  · rw [if_pos h, if_pos]
    obtain ⟨x, hx, hg⟩ := h
    exact List.any_eq_true.2 ⟨x, List.mem_range.2 hx, hg⟩
  · rw [if_neg h, if_neg]
    intro hh
    obtain ⟨x, hx, hg⟩ := List.any_eq_true.1 hh
    exact h ⟨x, List.mem_range.1 hx, hg⟩

/-- A depth that is not zero: some letter leads to less, none to less than one less. -/
theorem dv_letter {D d f : Nat} (hd : dv sm bel n L D f = ((d + 1 : Nat) : Int)) (hL : 0 < L) : (∃ x, x < n ∧ good sm bel n L d f x = true) ∧ d < D ∧ ∀ x, x < n → ¬ ∀ y, y < L → 0 ≤ dv sm bel n L D (bel f x y) ∧ dv sm bel n L D (bel f x y) < d := by
  have hlt : d + 1 ≤ D := by
    rcases dv_range (sm := sm) (bel := bel) (n := n) (L := L) D f with h1 | h1 <;> omega
  have h1 : ¬ 0 ≤ dv sm bel n L d f := fun h => by
    have := (dv_le (by omega : d ≤ D)).1 h
    omega
  have h2 : 0 ≤ dv sm bel n L (d + 1) f := (dv_le hlt).2 (by omega)
  rw [dv_succ, if_neg h1] at h2
  have h3 : ∃ x, x < n ∧ good sm bel n L d f x = true := by
    by_cases h : ∃ x, x < n ∧ good sm bel n L d f x = true
    · exact h
    · rw [if_neg h] at h2; omega
  refine ⟨h3, by omega, fun x hx hy => ?_⟩
  match d, hd, h1, h2, hlt, hy with
  | 0, _, _, _, _, hy => have := hy 0 hL; omega
  | d + 1, _, h1, _, hlt, hy =>
    apply h1
    rw [dv_succ]
    split
    · assumption
    · rw [if_pos ⟨x, hx, good_iff.2 fun y hl => (dv_le (by omega : d ≤ D)).2 ⟨(hy y hl).1, by have := (hy y hl).2; omega⟩⟩]
      omega

/-- The first letter of which something is true. -/
def fstL (p : Nat → Bool) (n : Nat) (z : Int) : Int := match (List.range n).find? p with
  | some x => x
  | none => z
theorem fstL_none {p : Nat → Bool} {n : Nat} {z : Int} (h : ∀ x, x < n → p x = false) : fstL p n z = z := by
  unfold fstL
  rw [List.find?_eq_none.2 fun x hx => by simp [h x (List.mem_range.1 hx)]]
theorem range_find {p : Nat → Bool} {n x : Nat} (hx : x < n) (h1 : p x = true) (h2 : ∀ z, z < x → p z = false) : (List.range n).find? p = some x := by
  rw [List.find?_range_eq_some]
  exact ⟨h1, List.mem_range.2 hx, fun j hj => by simp [h2 j hj]⟩
theorem fstL_some {p : Nat → Bool} {n x : Nat} {z : Int} (hx : x < n) (h1 : p x = true) (h2 : ∀ z, z < x → p z = false) : fstL p n z = x := by
  unfold fstL
  rw [range_find hx h1 h2]
theorem fstL_congr {p q : Nat → Bool} {n : Nat} {z z' : Int} (h : ∀ x, x < n → p x = q x) (he : ∃ x, x < n ∧ p x = true) : fstL p n z = fstL q n z' := by
  have : (List.range n).find? p = (List.range n).find? q := by
    have key : ∀ l : List Nat, (∀ x ∈ l, x < n) → l.find? p = l.find? q := fun l => by
      induction l with
      | nil => intro _; rfl
      | cons a l ih =>
        intro hl
        simp only [List.find?_cons]
        rw [h a (hl a (List.mem_cons_self ..)), ih fun x hx => hl x (List.mem_cons_of_mem _ hx)]
    exact key _ fun x hx => List.mem_range.1 hx
  unfold fstL
  rw [← this]
  obtain ⟨x, hx, hp⟩ := he
  cases hf : (List.range n).find? p with
  | none => have := List.find?_eq_none.1 hf x (List.mem_range.2 hx); simp [hp] at this
  | some y => rfl
theorem fstL_mem {p : Nat → Bool} {n : Nat} {z : Int} (he : ∃ x, x < n ∧ p x = true) : ∃ x : Nat, fstL p n z = x ∧ x < n ∧ p x = true := by
  unfold fstL
  obtain ⟨x, hx, hp⟩ := he
  cases hf : (List.range n).find? p with
  | none => have := List.find?_eq_none.1 hf x (List.mem_range.2 hx); simp [hp] at this
  | some y => exact ⟨y, rfl, List.mem_range.1 (List.mem_of_find?_eq_some hf), List.find?_some hf⟩

/-- How many of a list have no depth within d rounds. -/
def unk (sm : Nat → Bool) (bel : Nat → Nat → Nat → Nat) (n L : Nat) (l : List Nat) (d : Nat) : Nat := (l.filter fun f => decide (dv sm bel n L d f < 0)).length
theorem filter_le {α : Type} {P Q : α → Bool} : ∀ {l : List α}, (∀ x ∈ l, Q x = true → P x = true) → (l.filter Q).length ≤ (l.filter P).length
  | [], _ => Nat.le_refl _
  | x :: l, h => by
    have ih := filter_le (P := P) (Q := Q) (l := l) fun y hy => h y (List.mem_cons_of_mem _ hy)
    have hx := h x (List.mem_cons_self ..)
    simp only [List.filter_cons]
    cases hq : Q x <;> cases hp : P x <;> simp_all <;> omega
theorem filter_lt {α : Type} {P Q : α → Bool} : ∀ {l : List α}, (∀ x ∈ l, Q x = true → P x = true) → (∃ x ∈ l, P x = true ∧ Q x = false) → (l.filter Q).length < (l.filter P).length
  | [], _, h => by obtain ⟨_, h, _⟩ := h; cases h
  | x :: l, h, he => by
    have hx := h x (List.mem_cons_self ..)
    have h' : ∀ y ∈ l, Q y = true → P y = true := fun y hy => h y (List.mem_cons_of_mem _ hy)
    have le := filter_le h'
    obtain ⟨y, hy, hp, hq⟩ := he
    rcases List.mem_cons.1 hy with e | e
    · subst e
      simp only [List.filter_cons, hp, hq]
      simp; omega
    · have lt := filter_lt h' ⟨y, e, hp, hq⟩
      simp only [List.filter_cons]
      cases hq : Q x <;> cases hp : P x <;> simp_all <;> omega
theorem unk_lt {l : List Nat} {d : Nat} (he : ∃ f ∈ l, dv sm bel n L d f < 0 ∧ 0 ≤ dv sm bel n L (d + 1) f) : unk sm bel n L l (d + 1) < unk sm bel n L l d := filter_lt (fun f _ h => by
  have h := of_decide_eq_true h
  refine decide_eq_true ?_
  rcases dv_range (sm := sm) (bel := bel) (n := n) (L := L) d f with h1 | h1
  · omega
  · rw [dv_pos_up h1.1 (by omega : d ≤ d + 1)] at h; omega) (by
  obtain ⟨f, hf, h1, h2⟩ := he
  exact ⟨f, hf, decide_eq_true h1, by simp; omega⟩)
theorem unk_len {l : List Nat} {d : Nat} : unk sm bel n L l d ≤ l.length := List.length_filter_le ..
theorem dv_same1 {l : List Nat} {d : Nat} (h : ¬ ∃ f ∈ l, dv sm bel n L d f < 0 ∧ 0 ≤ dv sm bel n L (d + 1) f) : ∀ f ∈ l, dv sm bel n L (d + 1) f = dv sm bel n L d f := fun f hf => by
  rcases dv_range (sm := sm) (bel := bel) (n := n) (L := L) d f with h1 | h1
  · rcases dv_range (sm := sm) (bel := bel) (n := n) (L := L) (d + 1) f with h2 | h2
    · omega
    · exact absurd ⟨f, hf, by omega, h2.1⟩ h
  · exact dv_pos_up h1.1 (by omega)
end
theorem nodup_le : ∀ (N : Nat) (l : List Nat), l.Nodup → (∀ x ∈ l, x < N) → l.length ≤ N
  | 0, l, _, h => by
    cases l with
    | nil => simp
    | cons a l => have := h a (List.mem_cons_self ..); omega
  | N + 1, l, hn, h => by
    have h1 := nodup_le N (l.erase N) (hn.erase N) fun x hx => by
      have := hn.mem_erase_iff.1 hx
      have := h x this.2
      omega
    have := List.length_erase (a := N) (l := l)
    split at this <;> omega
end Go.Proofs.Ytampglcgipefnaa

/-! Bits of int, one less of a flock, entries of maps that are known. No condition. -/
namespace Go.Proofs.Ytampglcgipefnaa
open Go
attribute [local irreducible] awp awpL awpQL awpQ awpM pWalk Qt AC thenQ blockQ loopQ OpTo
set_option linter.unusedVariables false
set_option linter.unusedSimpArgs false
set_option maxHeartbeats 2000000
attribute [local irreducible] HC
open Go.RowKit (Below)

theorem i64_wrap {n : Nat} (h : n < 9223372036854775808) : IntKind.i64.wrap (n : Int) = n := wrap_in (by simp [IntKind.min, IntKind.signed, IntKind.bits] <;> omega) (by simp [IntKind.max, IntKind.signed, IntKind.bits]; omega)

section
variable {cx : Cx} {h : Heap} {s : Nat → SV} {dst : Option Nat} {ty : Nat} {pos : String} {af : Array Edge} {gd : Option (Nat × Bool)}

attribute [local semireducible] Qt in
theorem qi_or {t t' : Nat} {x y : Operand} {a b : Int} (hx : opv s x = .d (.int .i64 a)) (hy : opv s y = .d (.int .i64 b)) (ha : 0 ≤ a ∧ a < 9223372036854775808) (hb : 0 ≤ b ∧ b < 9223372036854775808) :
    Qt cx h ⟨dst, .binOp .or t x y t', ty, pos, af, gd⟩ s (.d (.int .i64 (bor a b))) :=
  qt_of fun r hr σ c w hv _ _ => by
    have h1 := hv x
    have h2 := hv y
    rw [hr x (by simp [Op.operands]), hx] at h1
    rw [hr y (by simp [Op.operands]), hy] at h2
    have h1' := RepD.int_inv h1
    have h2' := RepD.int_inv h2
    have e : (BitVec.ofInt IntKind.i64.bits a ||| BitVec.ofInt IntKind.i64.bits b).toNat = a.toNat ||| b.toNat := by
      show (BitVec.ofInt 64 a ||| BitVec.ofInt 64 b).toNat = _
      rw [BitVec.toNat_or, BitVec.toNat_ofInt, BitVec.toNat_ofInt]
      have q1 : (a % ((2 ^ 64 : Nat) : Int)).toNat = a.toNat := by rw [Int.emod_eq_of_lt ha.1 (by have := ha.2; have e : ((2 ^ 64 : Nat) : Int) = 18446744073709551616 := (by decide); omega)]
      have q2 : (b % ((2 ^ 64 : Nat) : Int)).toNat = b.toNat := by rw [Int.emod_eq_of_lt hb.1 (by have := hb.2; have e : ((2 ^ 64 : Nat) : Int) = 18446744073709551616 := (by decide); omega)]
      rw [q1, q2]
    have hlt : a.toNat ||| b.toNat < 9223372036854775808 := Nat.or_lt_two_pow (n := 63) (by omega) (by omega)
    refine ⟨.int .i64 (bor a b), w, ?_, Below.refl _ _, RepD.int _ _⟩
    have e2 : (Op.intBits .or .i64 a b).run cx.P w = .ok (.int .i64 (bor a b)) w := by
      simp only [Op.intBits, Sem.run_pure]
      rw [e, i64_wrap hlt]
      rfl
    simp [execOp, h1', h2', eqGuard, binOp, e2]

attribute [local semireducible] Qt in
theorem qi_and {t t' : Nat} {x y : Operand} {a b : Int} (hx : opv s x = .d (.int .i64 a)) (hy : opv s y = .d (.int .i64 b)) (ha : 0 ≤ a ∧ a < 9223372036854775808) (hb : 0 ≤ b ∧ b < 9223372036854775808) :
    Qt cx h ⟨dst, .binOp .and t x y t', ty, pos, af, gd⟩ s (.d (.int .i64 (band a b))) :=
  qt_of fun r hr σ c w hv _ _ => by
    have h1 := hv x
    have h2 := hv y
    rw [hr x (by simp [Op.operands]), hx] at h1
    rw [hr y (by simp [Op.operands]), hy] at h2
    have h1' := RepD.int_inv h1
    have h2' := RepD.int_inv h2
    have e : (BitVec.ofInt IntKind.i64.bits a &&& BitVec.ofInt IntKind.i64.bits b).toNat = a.toNat &&& b.toNat := by
      show (BitVec.ofInt 64 a &&& BitVec.ofInt 64 b).toNat = _
      rw [BitVec.toNat_and, BitVec.toNat_ofInt, BitVec.toNat_ofInt]
      have q1 : (a % ((2 ^ 64 : Nat) : Int)).toNat = a.toNat := by rw [Int.emod_eq_of_lt ha.1 (by have := ha.2; have e : ((2 ^ 64 : Nat) : Int) = 18446744073709551616 := (by decide); omega)]
      have q2 : (b % ((2 ^ 64 : Nat) : Int)).toNat = b.toNat := by rw [Int.emod_eq_of_lt hb.1 (by have := hb.2; have e : ((2 ^ 64 : Nat) : Int) = 18446744073709551616 := (by decide); omega)]
      rw [q1, q2]
    have hlt : a.toNat &&& b.toNat < 9223372036854775808 := Nat.lt_of_le_of_lt Nat.and_le_left (by omega)
    refine ⟨.int .i64 (band a b), w, ?_, Below.refl _ _, RepD.int _ _⟩
    have e2 : (Op.intBits .and .i64 a b).run cx.P w = .ok (.int .i64 (band a b)) w := by
      simp only [Op.intBits, Sem.run_pure]
      rw [e, i64_wrap hlt]
      rfl
    simp [execOp, h1', h2', eqGuard, binOp, e2]

attribute [local semireducible] Qt in
theorem qi_shr {t t' : Nat} {x y : Operand} {a b : Int} {k : IntKind} (hx : opv s x = .d (.int .i64 a)) (hy : opv s y = .d (.int k b)) (ha : 0 ≤ a ∧ a < 9223372036854775808) (hb : 0 ≤ b) :
    Qt cx h ⟨dst, .binOp .shr t x y t', ty, pos, af, gd⟩ s (.d (.int .i64 (bshr a b))) :=
  qt_of fun r hr σ c w hv _ _ => by
    have h1 := hv x
    have h2 := hv y
    rw [hr x (by simp [Op.operands]), hx] at h1
    rw [hr y (by simp [Op.operands]), hy] at h2
    have h1' := RepD.int_inv h1
    have h2' := RepD.int_inv h2
    refine ⟨.int .i64 (bshr a b), w, ?_, Below.refl _ _, RepD.int _ _⟩
    have e2 : (Op.shift .shr .i64 a k b).run cx.P w = .ok (.int .i64 (bshr a b)) w := by
      unfold Op.shift
      rw [if_neg (by omega)]
      simp only [IntKind.bits, Sem.run_pure]
      congr 2
      unfold bshr
      obtain ⟨n, rfl⟩ := Int.eq_ofNat_of_zero_le ha.1
      obtain ⟨m, rfl⟩ := Int.eq_ofNat_of_zero_le hb
      simp only [Int.toNat_natCast]
      rw [Nat.shiftRight_eq_div_pow]
      have key : n / 2 ^ min m 64 = n / 2 ^ m := by
        rcases Nat.le_total m 64 with h | h
        · rw [Nat.min_eq_left h]
        · rw [Nat.min_eq_right h]
          have h3 : n < 2 ^ m := Nat.lt_of_lt_of_le (by omega : n < 2 ^ 64) (Nat.pow_le_pow_right (by omega) h)
          rw [Nat.div_eq_of_lt (by omega : n < 2 ^ 64), Nat.div_eq_of_lt h3]
      rw [← key, show ((2 : Int) ^ min m 64) = ((2 ^ min m 64 : Nat) : Int) by push_cast; rfl, Int.fdiv_eq_ediv_of_nonneg _ (Int.natCast_nonneg _)]
      exact (Int.natCast_ediv _ _).symm
    simp [execOp, h1', h2', eqGuard, binOp, e2]

attribute [local semireducible] Qt in
theorem qi_one {t t' : Nat} {y : Operand} {b : Int} {k : IntKind} (hy : opv s y = .d (.int k b)) (hb : 0 ≤ b ∧ b < 63) :
    Qt cx h ⟨dst, .binOp .shl t (.const (.int .i64 1)) y t', ty, pos, af, gd⟩ s (.d (.int .i64 (two b))) :=
  qt_of fun r hr σ c w hv _ _ => by
    have h2 := hv y
    rw [hr y (by simp [Op.operands]), hy] at h2
    have h2' := RepD.int_inv h2
    refine ⟨.int .i64 (two b), w, ?_, Below.refl _ _, RepD.int _ _⟩
    have e2 : (Op.shift .shl .i64 1 k b).run cx.P w = .ok (.int .i64 (two b)) w := by
      unfold Op.shift
      rw [if_neg (by omega)]
      simp only [IntKind.bits, Sem.run_pure]
      congr 2
      unfold two
      obtain ⟨m, rfl⟩ := Int.eq_ofNat_of_zero_le hb.1
      simp only [Int.toNat_natCast]
      have hm : m < 63 := by omega
      rw [Nat.min_eq_left (by omega)]
      have hlt : 2 ^ m < 9223372036854775808 := Nat.pow_lt_pow_right (by omega : 1 < 2) hm
      have := i64_wrap hlt
      rw [← this]
      push_cast
      rw [Int.one_mul]
    have h1' : c.eval (.const (.int .i64 1)) = .int .i64 1 := rfl
    have e3 : (binOp .shl t (.int .i64 1) (.int k b)).run cx.P w = .ok (.int .i64 (two b)) w := e2
    have e4 : (eqGuard .shl t (.const (.int .i64 1)) y (.int .i64 1) (.int k b)).run cx.P w = .ok () w := by simp [eqGuard]
    simp only [execOp, h1', h2', Sem.run_bind, e3, e4, Result.andThen_ok, Sem.run_pure]

attribute [local semireducible] Qt in
/-- 0 and anything are 0. -/
theorem qi_and0 {t t' : Nat} {x y : Operand} {b : Int} (hx : opv s x = .d (.int .i64 0)) (hy : opv s y = .d (.int .i64 b)) :
    Qt cx h ⟨dst, .binOp .and t x y t', ty, pos, af, gd⟩ s (.d (.int .i64 0)) :=
  qt_of fun r hr σ c w hv _ _ => by
    have h1 := hv x
    have h2 := hv y
    rw [hr x (by simp [Op.operands]), hx] at h1
    rw [hr y (by simp [Op.operands]), hy] at h2
    have h1' := RepD.int_inv h1
    have h2' := RepD.int_inv h2
    have e : (BitVec.ofInt IntKind.i64.bits 0 &&& BitVec.ofInt IntKind.i64.bits b).toNat = 0 := by
      show (BitVec.ofInt 64 0 &&& BitVec.ofInt 64 b).toNat = _
      simp
    refine ⟨.int .i64 0, w, ?_, Below.refl _ _, RepD.int _ _⟩
    have e2 : (Op.intBits .and .i64 0 b).run cx.P w = .ok (.int .i64 0) w := by
      simp only [Op.intBits, Sem.run_pure]
      rw [e]
      have := i64_wrap (n := 0) (by omega)
      simp only [Int.ofNat_zero, Int.natCast_zero] at this ⊢
      first | rw [this] | (show Result.ok (Value.int .i64 (IntKind.i64.wrap 0)) w = _; rfl)
    simp [execOp, h1', h2', eqGuard, binOp, e2]

theorem qi_conv {S T : Nat} {x : Operand} {ts tt : TR} {k' : IntKind} {n : Int} (ht : tget cx.T T = some tt) (hk : tt.kind = some .u64) (hs : tget cx.T S = some ts) (hx : opv s x = .d (.int k' n)) (hn : 0 ≤ n ∧ n ≤ 9223372036854775807) :
    Qt cx h ⟨dst, .convert S T x, ty, pos, af, gd⟩ s (.d (.int .u64 n)) := qt_ev (by
  simp only [ev, ht, hk, hs, hx]
  rw [wrap_in (by simp [IntKind.min, IntKind.signed]; omega) (by simp [IntKind.max, IntKind.signed, IntKind.bits]; omega)])
/-- A difference that may be turned round. -/
theorem qb_subU {t t' : Nat} {x y : Operand} {a b : Int} (hx : opv s x = .d (.int .u64 a)) (hy : opv s y = .d (.int .u64 b)) :
    Qt cx h ⟨dst, .binOp .sub t x y t', ty, pos, af, gd⟩ s (.d (.int .u64 (IntKind.u64.wrap (a - b)))) := qt_ev (by simp only [ev, hx, hy, evBin, sameK])
end

/-- What a map holds at a key. -/
structure MGet (n : Int) (kvs : List (D × D)) (r : Option D) : Prop where
  h : mget n kvs = r
theorem wa_got {cx : Cx} {h : Heap} {dst : Option Nat} {ty : Nat} {pos : String} {af : Array Edge} {gd : Option (Nat × Bool)} {T : Nat} {x i : Operand} {tr tk te : TR} {kt et : Nat} {f : Nat → SV} {kvs : List (D × D)} {kd : IntKind} {n : Int} {okc : Bool} {r : Option D} (hx : mapOf h (opv f x) = some kvs) (hi : opv f i = .d (.int kd n)) (ht : tget cx.T T = some tr) (hm : tr.mp = some (kt, et))
    (htk : tget cx.T kt = some tk) (hkk : tk.kind = some kd) (hte : tget cx.T et = some te) (ha : te.agg = false) (hz : Nat.beq te.zero.length 1 = true) (hk : keysI kd kvs = true) (hr : MGet n kvs r) :
    Qt cx h ⟨dst, .lookup T x i okc, ty, pos, af, gd⟩ f (.d (mans te okc r)) := by
  have := wa_lookup (cx := cx) (h := h) (dst := dst) (ty := ty) (pos := pos) (af := af) (gd := gd) (okc := okc) hx hi ht hm htk hkk hte ha hz hk
  rwa [hr.h] at this
end Go.Proofs.Ytampglcgipefnaa
