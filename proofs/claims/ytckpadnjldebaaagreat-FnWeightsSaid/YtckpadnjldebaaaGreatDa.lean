/- Plain facts of depths: the least number of rounds in which a set becomes known. No condition. -/
import Derived.Test.YtckpadnjldebaaaGreatSf
namespace Go.Proofs.YtckpadnjldebaaaGreat
open Go
attribute [local irreducible] awp awpL awpQL awpQ awpM pWalk Qt AC thenQ blockQ loopQ OpTo
set_option linter.unusedVariables false
set_option linter.unusedSimpArgs false
set_option maxHeartbeats 2000000
attribute [local irreducible] HC
def dv (sm : Nat -> Bool) (bel : Nat -> Nat -> Nat -> Nat) (n L : Nat) : Nat -> Nat -> Int
  | 0, f => if sm f then 0 else -1
  | d + 1, f => if 0 <= dv sm bel n L d f then dv sm bel n L d f else if (List.range n).any (fun x => (List.range L).all fun y => decide (0 <= dv sm bel n L d (bel f x y))) then ((d + 1 : Nat) : Int) else -1
section
variable {sm : Nat -> Bool} {bel : Nat -> Nat -> Nat -> Nat} {n L : Nat}
end
section
variable {sm : Nat -> Bool} {bel : Nat -> Nat -> Nat -> Nat} {n L : Nat}
end
theorem nodup_le : ∀ (N : Nat) (l : List Nat), l.Nodup -> (∀ x ∈ l, x < N) -> l.length <= N
  | 0, l, _, h => by
    cases l with
    | nil => simp
    | cons a l => have := h a (List.mem_cons_self ..); omega
  | N + 1, l, hn, h => by
    have h1 := nodup_le N (l.erase N) (hn.erase N) fun x hx => by
      have := hn.mem_erase_iff.1 hx
      have := h x this.2
      omega
    have := List.length_erase (a := N) (l := l)
    split at this <;> omega
end Go.Proofs.YtckpadnjldebaaaGreat
namespace Go.Proofs.YtckpadnjldebaaaGreat
open Go
attribute [local irreducible] awp awpL awpQL awpQ awpM pWalk Qt AC thenQ blockQ loopQ OpTo
set_option linter.unusedVariables false
set_option linter.unusedSimpArgs false
set_option maxHeartbeats 2000000
attribute [local irreducible] HC
open Go.RowKit (Below)
section
variable {cx : Cx} {h : Heap} {s : Nat -> SV} {dst : Option Nat} {ty : Nat} {pos : String} {af : Array Edge} {gd : Option (Nat × Bool)}
end
end Go.Proofs.YtckpadnjldebaaaGreat
