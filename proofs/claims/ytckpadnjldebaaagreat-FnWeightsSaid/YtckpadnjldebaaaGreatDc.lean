/- Sets as numbers: contracts of the reference and of the program; the worst depth behind a letter. No condition. -/
import Derived.Test.YtckpadnjldebaaaGreatDa
namespace Go.Proofs.YtckpadnjldebaaaGreat
open Go
attribute [local irreducible] awp awpL awpQL awpQ awpM pWalk Qt AC thenQ blockQ loopQ OpTo
set_option linter.unusedVariables false
set_option linter.unusedSimpArgs false
set_option maxHeartbeats 2000000
attribute [local irreducible] HC
theorem pow_le {m : Nat} (h : m <= 10) : 2 ^ m <= 1024 := (show 2 ^ m <= 2 ^ 10 from Nat.pow_le_pow_right (by omega) h)
theorem setN_lt {f m : Nat} (h : f < 2 ^ m) {q : Int} (hq : q ∈ setN f) : 0 <= q /\ q < m := by
  obtain ⟨i, i1, i2, rfl⟩ := mem_setTo.1 hq
  refine ⟨by omega, ?_⟩
  rcases Nat.lt_or_ge i m with h' | h'
  . omega
  . have := Nat.testBit_lt_two_pow (Nat.lt_of_lt_of_le h (Nat.pow_le_pow_right (by omega) h'))
    rw [this] at i2; cases i2
theorem bits_lt {m : Nat} : ∀ (l : List Int) (acc : Nat), acc < 2 ^ m -> (∀ x ∈ l, x.toNat < m) -> bitsL acc l < 2 ^ m
  | [], acc, h, _ => h
  | x :: l, acc, h, hl => by
    unfold bitsL
    simp only [List.foldl_cons]
    have h2 : 2 ^ x.toNat < 2 ^ m := Nat.pow_lt_pow_right (by omega) (hl x (List.mem_cons_self ..))
    exact bits_lt l _ (Nat.or_lt_two_pow h h2) fun y hy => hl y (List.mem_cons_of_mem _ hy)
def sm (f : Nat) : Bool := decide (f &&& (f - 1) = 0)
def bel (nx : List (List Int)) (lp : List Int) (f x y : Nat) : Nat := belB nx lp f x y
end Go.Proofs.YtckpadnjldebaaaGreat
namespace Go.Proofs.YtckpadnjldebaaaGreat
open Go
attribute [local irreducible] awp awpL awpQL awpQ awpM pWalk Qt AC thenQ blockQ loopQ OpTo
set_option linter.unusedVariables false
set_option linter.unusedSimpArgs false
set_option maxHeartbeats 2000000
attribute [local irreducible] HC
def dN (nx : List (List Int)) (lp : List Int) (d f : Nat) : Int := dv sm (bel nx lp) nx.length 4 d f
def still (nx : List (List Int)) (lp : List Int) (l : List Nat) (d : Nat) : Prop := ∀ f ∈ l, dN nx lp (d + 1) f = dN nx lp d f
end Go.Proofs.YtckpadnjldebaaaGreat
