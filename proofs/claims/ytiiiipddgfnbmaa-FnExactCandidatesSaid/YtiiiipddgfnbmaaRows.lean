/-
  No cell of these rows narrows 'for every input' (looked for: loops, veiled, ifaces, maps, wideKeys, modest, calm, conditions, laid).
  DERIVED. THE GIVEN ROWS OF THIS SEAT. 3 by the template 'for every input the law returns true; each argument reads behind the call as it read before'; 0 by the template 'total and deterministic' (their statements: YtiiiipddgfnbmaaTotals.lean).
  GIVEN WITH THE SEED: the statements are not yours to turn. If you find one false, say at which input.
  Laid BY PROGRAM, IN A SANDBOX (cutbox-rows.mjs): the forced cells as the released guide's own fill.sh prints them over the translation aa7b06615d191196… (all of the seat's roots in one cut). By AI agents, Wed Nov 11 2026. No macro, syntax, notation, axiom, sorry.
-/
import Derived.Test.YtiiiipddgfnbmaaChecked
import GoSem.Claim
import GoSem.ClaimJoined
import GoSem.ClaimMapViews
import Derived.JoinedTies
import Derived.KernelRfl
namespace Go.Proofs.Ytiiiipddgfnbmaa
/- THE CELL 'sum', in the pinned program and in every row, IS THE sha256 OF THE DUMP (.gsa) THAT YtiiiipddgfnbmaaProg.lean LOADS. Nothing in Lean hashes anything: it is a label: what it is worth is what the hold of that sum in a sandbox is worth. -/
noncomputable def Try.pinned : Pinned := { name := "ytiiiipddgfnbmaa", sum := "aa7b06615d191196f2246740f0cafeac73edf203c9b754c8a0b61c6e0d8be1b6", checked := Try.checked }
namespace Rows
def none {H : Type} : Left H := { results := [], args := [] }

/-- 'laws.FnExactMutantAt': WHATEVER THE INPUT: true; the input reads as it did. -/
def fnExactMutantAtSpec : ChangeSpec := { name := "fnExactMutantAt", fn := fun _ => fun
  | [d1, d2] => { results := [.lit (.bool true)], args := [d1, d2] }
  | _ => none }
def fnExactMutantAtRow : OpenClaim := { program := "ytiiiipddgfnbmaa", sum := "aa7b06615d191196f2246740f0cafeac73edf203c9b754c8a0b61c6e0d8be1b6", func := "loop.example/g01102/laws.FnExactMutantAt", spec := "fnExactMutantAt", unfollowed := true, recurses := true, apart := false }
def FnExactMutantAtSaid : Prop := fnExactMutantAtRow.holds Try.pinned (OpenSpec.ofChange fnExactMutantAtSpec)

/-- ITS FALSE NEIGHBOUR: 'it returns false'. Refute it at one input. -/
def fnExactMutantAtWrong : ChangeSpec := { name := "fnExactMutantAt", fn := fun _ => fun
  | [d1, d2] => { results := [.lit (.bool false)], args := [d1, d2] }
  | _ => none }
def FnExactMutantAtWrongFalsely : Prop := fnExactMutantAtRow.holds Try.pinned (OpenSpec.ofChange fnExactMutantAtWrong)

/-- 'laws.FnExactKilledBy': WHATEVER THE INPUT: true; the input reads as it did. -/
def fnExactKilledBySpec : ChangeSpec := { name := "fnExactKilledBy", fn := fun _ => fun
  | [d1, d2] => { results := [.lit (.bool true)], args := [d1, d2] }
  | _ => none }
def fnExactKilledByRow : OpenClaim := { program := "ytiiiipddgfnbmaa", sum := "aa7b06615d191196f2246740f0cafeac73edf203c9b754c8a0b61c6e0d8be1b6", func := "loop.example/g01102/laws.FnExactKilledBy", spec := "fnExactKilledBy", unfollowed := true, recurses := true, apart := false }
def FnExactKilledBySaid : Prop := fnExactKilledByRow.holds Try.pinned (OpenSpec.ofChange fnExactKilledBySpec)

/-- ITS FALSE NEIGHBOUR: 'it returns false'. Refute it at one input. -/
def fnExactKilledByWrong : ChangeSpec := { name := "fnExactKilledBy", fn := fun _ => fun
  | [d1, d2] => { results := [.lit (.bool false)], args := [d1, d2] }
  | _ => none }
def FnExactKilledByWrongFalsely : Prop := fnExactKilledByRow.holds Try.pinned (OpenSpec.ofChange fnExactKilledByWrong)

/-- 'laws.FnExactCandidates': WHATEVER THE INPUT: true; the input reads as it did. -/
def fnExactCandidatesSpec : ChangeSpec := { name := "fnExactCandidates", fn := fun _ => fun
  | [d1, d2, d3] => { results := [.lit (.bool true)], args := [d1, d2, d3] }
  | _ => none }
def fnExactCandidatesRow : OpenClaim := { program := "ytiiiipddgfnbmaa", sum := "aa7b06615d191196f2246740f0cafeac73edf203c9b754c8a0b61c6e0d8be1b6", func := "loop.example/g01102/laws.FnExactCandidates", spec := "fnExactCandidates", unfollowed := true, recurses := true, apart := false }
def FnExactCandidatesSaid : Prop := fnExactCandidatesRow.holds Try.pinned (OpenSpec.ofChange fnExactCandidatesSpec)

/-- ITS FALSE NEIGHBOUR: 'it returns false'. Refute it at one input. -/
def fnExactCandidatesWrong : ChangeSpec := { name := "fnExactCandidates", fn := fun _ => fun
  | [d1, d2, d3] => { results := [.lit (.bool false)], args := [d1, d2, d3] }
  | _ => none }
def FnExactCandidatesWrongFalsely : Prop := fnExactCandidatesRow.holds Try.pinned (OpenSpec.ofChange fnExactCandidatesWrong)

/- THE SECOND FORM. 'bulk': how many values and letters a reading holds, each counted each time it is reached (what is shared counts as often as it is met; a slice's spare places count too). A statement '..UptoSaid' is the law's where the arguments, and the package variables that the reading takes, are together of bulk at most 1048576: NARROWER than '..Said'. Prove '..Said' where nothing that the law and all that it calls make is longer than what came in: it says more and counts as full. Else prove '..UptoSaid'. A law counts once. -/
mutual
def uptoBulk {H : Type} : DataW H → Nat
  | .lit (.string bytes) => bytes.length + 1
  | .lit _ => 1
  | .nil => 1
  | .ptr d => uptoBulk d + 1
  | .slice elems spare => uptoBulkAll elems + uptoBulkAll spare + 1
  | .agg parts => uptoBulkAll parts + 1
  | .iface _ d => uptoBulk d + 1
  | .map entries => uptoBulkEntries entries + 1
  | .held _ => 1
def uptoBulkAll {H : Type} : List (DataW H) → Nat
  | [] => 0
  | d :: r => uptoBulk d + uptoBulkAll r
def uptoBulkEntries {H : Type} : List (Lit × DataW H) → Nat
  | [] => 0
  | x :: r => uptoBulkEntry x + uptoBulkEntries r
def uptoBulkEntry {H : Type} : Lit × DataW H → Nat
  | (.string bytes, d) => bytes.length + uptoBulk d + 1
  | (_, d) => uptoBulk d + 1
 end
def uptoSmall : (H : Type) → List (DataW H) → Bool := fun _ ds => decide (uptoBulkAll ds ≤ 1048576)
def OpenSpec.upto (s : _root_.Go.ChangeSpec) : _root_.Go.OpenSpec := { _root_.Go.OpenSpec.ofChange s with cond := some uptoSmall }

/-- 'laws.FnExactMutantAt', WHERE WHAT IT READS IS OF BULK AT MOST 1048576: true; the input reads as it did. -/
def fnExactMutantAtUptoRow : OpenClaim := { program := "ytiiiipddgfnbmaa", sum := "aa7b06615d191196f2246740f0cafeac73edf203c9b754c8a0b61c6e0d8be1b6", func := "loop.example/g01102/laws.FnExactMutantAt", spec := "fnExactMutantAt", unfollowed := true, recurses := true, apart := false, narrowed := true }
def FnExactMutantAtUptoSaid : Prop := fnExactMutantAtUptoRow.holds Try.pinned (OpenSpec.upto fnExactMutantAtSpec)

/-- 'laws.FnExactKilledBy', WHERE WHAT IT READS IS OF BULK AT MOST 1048576: true; the input reads as it did. -/
def fnExactKilledByUptoRow : OpenClaim := { program := "ytiiiipddgfnbmaa", sum := "aa7b06615d191196f2246740f0cafeac73edf203c9b754c8a0b61c6e0d8be1b6", func := "loop.example/g01102/laws.FnExactKilledBy", spec := "fnExactKilledBy", unfollowed := true, recurses := true, apart := false, narrowed := true }
def FnExactKilledByUptoSaid : Prop := fnExactKilledByUptoRow.holds Try.pinned (OpenSpec.upto fnExactKilledBySpec)

/-- 'laws.FnExactCandidates', WHERE WHAT IT READS IS OF BULK AT MOST 1048576: true; the input reads as it did. -/
def fnExactCandidatesUptoRow : OpenClaim := { program := "ytiiiipddgfnbmaa", sum := "aa7b06615d191196f2246740f0cafeac73edf203c9b754c8a0b61c6e0d8be1b6", func := "loop.example/g01102/laws.FnExactCandidates", spec := "fnExactCandidates", unfollowed := true, recurses := true, apart := false, narrowed := true }
def FnExactCandidatesUptoSaid : Prop := fnExactCandidatesUptoRow.holds Try.pinned (OpenSpec.upto fnExactCandidatesSpec)

end Rows
end Go.Proofs.Ytiiiipddgfnbmaa
