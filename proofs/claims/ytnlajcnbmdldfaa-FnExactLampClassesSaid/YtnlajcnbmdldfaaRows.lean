/-
  No cell of these rows narrows 'for every input' (looked for: loops, veiled, ifaces, maps, wideKeys, modest, calm, conditions, laid).
  DERIVED. THE GIVEN ROWS OF THIS SEAT. 11 by the template 'for every input the law returns true; each argument reads behind the call as it read before'; 0 by the template 'total and deterministic' (their statements: YtnlajcnbmdldfaaTotals.lean).
  GIVEN WITH THE SEED: the statements are not yours to turn. If you find one false, say at which input.
  Laid BY PROGRAM, IN A SANDBOX (cutbox-rows.mjs): the forced cells as the released guide's own fill.sh prints them over the translation 9efe924fb9217233… (all of the seat's roots in one cut). By AI agents, Wed Nov 11 2026. No macro, syntax, notation, axiom, sorry.
-/
import Derived.Test.YtnlajcnbmdldfaaChecked
import GoSem.Claim
import GoSem.ClaimJoined
import GoSem.ClaimMapViews
import Derived.JoinedTies
import Derived.KernelRfl
namespace Go.Proofs.Ytnlajcnbmdldfaa
/- THE CELL 'sum', in the pinned program and in every row, IS THE sha256 OF THE DUMP (.gsa) THAT YtnlajcnbmdldfaaProg.lean LOADS. Nothing in Lean hashes anything: it is a label: what it is worth is what the hold of that sum in a sandbox is worth. -/
noncomputable def Try.pinned : Pinned := { name := "ytnlajcnbmdldfaa", sum := "9efe924fb9217233ff982e2f76f1e23938795a2f29fce9b22d68adafb1e9b481", checked := Try.checked }
namespace Rows
def none {H : Type} : Left H := { results := [], args := [] }

/-- 'laws.FnExactFirstFailing': WHATEVER THE INPUT: true; the input reads as it did. -/
def fnExactFirstFailingSpec : ChangeSpec := { name := "fnExactFirstFailing", fn := fun _ => fun
  | [d1, d2, d3] => { results := [.lit (.bool true)], args := [d1, d2, d3] }
  | _ => none }
def fnExactFirstFailingRow : OpenClaim := { program := "ytnlajcnbmdldfaa", sum := "9efe924fb9217233ff982e2f76f1e23938795a2f29fce9b22d68adafb1e9b481", func := "loop.example/g01102/laws.FnExactFirstFailing", spec := "fnExactFirstFailing", unfollowed := true, recurses := true, plainKeys := false, apart := false }
def FnExactFirstFailingSaid : Prop := fnExactFirstFailingRow.holds Try.pinned (OpenSpec.ofChange fnExactFirstFailingSpec)

/-- ITS FALSE NEIGHBOUR: 'it returns false'. Refute it at one input. -/
def fnExactFirstFailingWrong : ChangeSpec := { name := "fnExactFirstFailing", fn := fun _ => fun
  | [d1, d2, d3] => { results := [.lit (.bool false)], args := [d1, d2, d3] }
  | _ => none }
def FnExactFirstFailingWrongFalsely : Prop := fnExactFirstFailingRow.holds Try.pinned (OpenSpec.ofChange fnExactFirstFailingWrong)

/-- 'laws.FnExactPasses': WHATEVER THE INPUT: true; the input reads as it did. -/
def fnExactPassesSpec : ChangeSpec := { name := "fnExactPasses", fn := fun _ => fun
  | [d1, d2, d3] => { results := [.lit (.bool true)], args := [d1, d2, d3] }
  | _ => none }
def fnExactPassesRow : OpenClaim := { program := "ytnlajcnbmdldfaa", sum := "9efe924fb9217233ff982e2f76f1e23938795a2f29fce9b22d68adafb1e9b481", func := "loop.example/g01102/laws.FnExactPasses", spec := "fnExactPasses", unfollowed := true, recurses := true, plainKeys := false, apart := false }
def FnExactPassesSaid : Prop := fnExactPassesRow.holds Try.pinned (OpenSpec.ofChange fnExactPassesSpec)

/-- ITS FALSE NEIGHBOUR: 'it returns false'. Refute it at one input. -/
def fnExactPassesWrong : ChangeSpec := { name := "fnExactPasses", fn := fun _ => fun
  | [d1, d2, d3] => { results := [.lit (.bool false)], args := [d1, d2, d3] }
  | _ => none }
def FnExactPassesWrongFalsely : Prop := fnExactPassesRow.holds Try.pinned (OpenSpec.ofChange fnExactPassesWrong)

/-- 'laws.FnExactStateCover': WHATEVER THE INPUT: true; the input reads as it did. -/
def fnExactStateCoverSpec : ChangeSpec := { name := "fnExactStateCover", fn := fun _ => fun
  | [d] => { results := [.lit (.bool true)], args := [d] }
  | _ => none }
def fnExactStateCoverRow : OpenClaim := { program := "ytnlajcnbmdldfaa", sum := "9efe924fb9217233ff982e2f76f1e23938795a2f29fce9b22d68adafb1e9b481", func := "loop.example/g01102/laws.FnExactStateCover", spec := "fnExactStateCover", unfollowed := true, recurses := true, plainKeys := false, apart := false }
def FnExactStateCoverSaid : Prop := fnExactStateCoverRow.holds Try.pinned (OpenSpec.ofChange fnExactStateCoverSpec)

/-- ITS FALSE NEIGHBOUR: 'it returns false'. Refute it at one input. -/
def fnExactStateCoverWrong : ChangeSpec := { name := "fnExactStateCover", fn := fun _ => fun
  | [d] => { results := [.lit (.bool false)], args := [d] }
  | _ => none }
def FnExactStateCoverWrongFalsely : Prop := fnExactStateCoverRow.holds Try.pinned (OpenSpec.ofChange fnExactStateCoverWrong)

/-- 'laws.FnExactLampClasses': WHATEVER THE INPUT: true; the input reads as it did. -/
def fnExactLampClassesSpec : ChangeSpec := { name := "fnExactLampClasses", fn := fun _ => fun
  | [d] => { results := [.lit (.bool true)], args := [d] }
  | _ => none }
def fnExactLampClassesRow : OpenClaim := { program := "ytnlajcnbmdldfaa", sum := "9efe924fb9217233ff982e2f76f1e23938795a2f29fce9b22d68adafb1e9b481", func := "loop.example/g01102/laws.FnExactLampClasses", spec := "fnExactLampClasses", unfollowed := true, recurses := true, plainKeys := false, apart := false }
def FnExactLampClassesSaid : Prop := fnExactLampClassesRow.holds Try.pinned (OpenSpec.ofChange fnExactLampClassesSpec)

/-- ITS FALSE NEIGHBOUR: 'it returns false'. Refute it at one input. -/
def fnExactLampClassesWrong : ChangeSpec := { name := "fnExactLampClasses", fn := fun _ => fun
  | [d] => { results := [.lit (.bool false)], args := [d] }
  | _ => none }
def FnExactLampClassesWrongFalsely : Prop := fnExactLampClassesRow.holds Try.pinned (OpenSpec.ofChange fnExactLampClassesWrong)

/-- 'laws.FnExactBelieved': WHATEVER THE INPUT: true; the input reads as it did. -/
def fnExactBelievedSpec : ChangeSpec := { name := "fnExactBelieved", fn := fun _ => fun
  | [d1, d2, d3, d4] => { results := [.lit (.bool true)], args := [d1, d2, d3, d4] }
  | _ => none }
def fnExactBelievedRow : OpenClaim := { program := "ytnlajcnbmdldfaa", sum := "9efe924fb9217233ff982e2f76f1e23938795a2f29fce9b22d68adafb1e9b481", func := "loop.example/g01102/laws.FnExactBelieved", spec := "fnExactBelieved", unfollowed := true, recurses := true, plainKeys := false, apart := false }
def FnExactBelievedSaid : Prop := fnExactBelievedRow.holds Try.pinned (OpenSpec.ofChange fnExactBelievedSpec)

/-- ITS FALSE NEIGHBOUR: 'it returns false'. Refute it at one input. -/
def fnExactBelievedWrong : ChangeSpec := { name := "fnExactBelieved", fn := fun _ => fun
  | [d1, d2, d3, d4] => { results := [.lit (.bool false)], args := [d1, d2, d3, d4] }
  | _ => none }
def FnExactBelievedWrongFalsely : Prop := fnExactBelievedRow.holds Try.pinned (OpenSpec.ofChange fnExactBelievedWrong)

/-- 'laws.FnExactMutantAt': WHATEVER THE INPUT: true; the input reads as it did. -/
def fnExactMutantAtSpec : ChangeSpec := { name := "fnExactMutantAt", fn := fun _ => fun
  | [d1, d2] => { results := [.lit (.bool true)], args := [d1, d2] }
  | _ => none }
def fnExactMutantAtRow : OpenClaim := { program := "ytnlajcnbmdldfaa", sum := "9efe924fb9217233ff982e2f76f1e23938795a2f29fce9b22d68adafb1e9b481", func := "loop.example/g01102/laws.FnExactMutantAt", spec := "fnExactMutantAt", unfollowed := true, recurses := true, plainKeys := false, apart := false }
def FnExactMutantAtSaid : Prop := fnExactMutantAtRow.holds Try.pinned (OpenSpec.ofChange fnExactMutantAtSpec)

/-- ITS FALSE NEIGHBOUR: 'it returns false'. Refute it at one input. -/
def fnExactMutantAtWrong : ChangeSpec := { name := "fnExactMutantAt", fn := fun _ => fun
  | [d1, d2] => { results := [.lit (.bool false)], args := [d1, d2] }
  | _ => none }
def FnExactMutantAtWrongFalsely : Prop := fnExactMutantAtRow.holds Try.pinned (OpenSpec.ofChange fnExactMutantAtWrong)

/-- 'laws.FnExactKilledBy': WHATEVER THE INPUT: true; the input reads as it did. -/
def fnExactKilledBySpec : ChangeSpec := { name := "fnExactKilledBy", fn := fun _ => fun
  | [d1, d2] => { results := [.lit (.bool true)], args := [d1, d2] }
  | _ => none }
def fnExactKilledByRow : OpenClaim := { program := "ytnlajcnbmdldfaa", sum := "9efe924fb9217233ff982e2f76f1e23938795a2f29fce9b22d68adafb1e9b481", func := "loop.example/g01102/laws.FnExactKilledBy", spec := "fnExactKilledBy", unfollowed := true, recurses := true, plainKeys := false, apart := false }
def FnExactKilledBySaid : Prop := fnExactKilledByRow.holds Try.pinned (OpenSpec.ofChange fnExactKilledBySpec)

/-- ITS FALSE NEIGHBOUR: 'it returns false'. Refute it at one input. -/
def fnExactKilledByWrong : ChangeSpec := { name := "fnExactKilledBy", fn := fun _ => fun
  | [d1, d2] => { results := [.lit (.bool false)], args := [d1, d2] }
  | _ => none }
def FnExactKilledByWrongFalsely : Prop := fnExactKilledByRow.holds Try.pinned (OpenSpec.ofChange fnExactKilledByWrong)

/-- 'laws.FnExactAdaptiveDepth': WHATEVER THE INPUT: true; the input reads as it did. -/
def fnExactAdaptiveDepthSpec : ChangeSpec := { name := "fnExactAdaptiveDepth", fn := fun _ => fun
  | [d1, d2] => { results := [.lit (.bool true)], args := [d1, d2] }
  | _ => none }
def fnExactAdaptiveDepthRow : OpenClaim := { program := "ytnlajcnbmdldfaa", sum := "9efe924fb9217233ff982e2f76f1e23938795a2f29fce9b22d68adafb1e9b481", func := "loop.example/g01102/laws.FnExactAdaptiveDepth", spec := "fnExactAdaptiveDepth", unfollowed := true, recurses := true, plainKeys := false, apart := false }
def FnExactAdaptiveDepthSaid : Prop := fnExactAdaptiveDepthRow.holds Try.pinned (OpenSpec.ofChange fnExactAdaptiveDepthSpec)

/-- ITS FALSE NEIGHBOUR: 'it returns false'. Refute it at one input. -/
def fnExactAdaptiveDepthWrong : ChangeSpec := { name := "fnExactAdaptiveDepth", fn := fun _ => fun
  | [d1, d2] => { results := [.lit (.bool false)], args := [d1, d2] }
  | _ => none }
def FnExactAdaptiveDepthWrongFalsely : Prop := fnExactAdaptiveDepthRow.holds Try.pinned (OpenSpec.ofChange fnExactAdaptiveDepthWrong)

/-- 'laws.FnExactCandidates': WHATEVER THE INPUT: true; the input reads as it did. -/
def fnExactCandidatesSpec : ChangeSpec := { name := "fnExactCandidates", fn := fun _ => fun
  | [d1, d2, d3] => { results := [.lit (.bool true)], args := [d1, d2, d3] }
  | _ => none }
def fnExactCandidatesRow : OpenClaim := { program := "ytnlajcnbmdldfaa", sum := "9efe924fb9217233ff982e2f76f1e23938795a2f29fce9b22d68adafb1e9b481", func := "loop.example/g01102/laws.FnExactCandidates", spec := "fnExactCandidates", unfollowed := true, recurses := true, plainKeys := false, apart := false }
def FnExactCandidatesSaid : Prop := fnExactCandidatesRow.holds Try.pinned (OpenSpec.ofChange fnExactCandidatesSpec)

/-- ITS FALSE NEIGHBOUR: 'it returns false'. Refute it at one input. -/
def fnExactCandidatesWrong : ChangeSpec := { name := "fnExactCandidates", fn := fun _ => fun
  | [d1, d2, d3] => { results := [.lit (.bool false)], args := [d1, d2, d3] }
  | _ => none }
def FnExactCandidatesWrongFalsely : Prop := fnExactCandidatesRow.holds Try.pinned (OpenSpec.ofChange fnExactCandidatesWrong)

/-- 'laws.FnFailing': WHATEVER THE INPUT: true; the input reads as it did. -/
def fnFailingSpec : ChangeSpec := { name := "fnFailing", fn := fun _ => fun
  | [d1, d2] => { results := [.lit (.bool true)], args := [d1, d2] }
  | _ => none }
def fnFailingRow : OpenClaim := { program := "ytnlajcnbmdldfaa", sum := "9efe924fb9217233ff982e2f76f1e23938795a2f29fce9b22d68adafb1e9b481", func := "loop.example/g01102/laws.FnFailing", spec := "fnFailing", unfollowed := true, recurses := true, plainKeys := false, apart := false }
def FnFailingSaid : Prop := fnFailingRow.holds Try.pinned (OpenSpec.ofChange fnFailingSpec)

/-- ITS FALSE NEIGHBOUR: 'it returns false'. Refute it at one input. -/
def fnFailingWrong : ChangeSpec := { name := "fnFailing", fn := fun _ => fun
  | [d1, d2] => { results := [.lit (.bool false)], args := [d1, d2] }
  | _ => none }
def FnFailingWrongFalsely : Prop := fnFailingRow.holds Try.pinned (OpenSpec.ofChange fnFailingWrong)

/-- 'laws.FnMutants': WHATEVER THE INPUT: true; the input reads as it did. -/
def fnMutantsSpec : ChangeSpec := { name := "fnMutants", fn := fun _ => fun
  | [d1, d2] => { results := [.lit (.bool true)], args := [d1, d2] }
  | _ => none }
def fnMutantsRow : OpenClaim := { program := "ytnlajcnbmdldfaa", sum := "9efe924fb9217233ff982e2f76f1e23938795a2f29fce9b22d68adafb1e9b481", func := "loop.example/g01102/laws.FnMutants", spec := "fnMutants", unfollowed := true, recurses := true, plainKeys := false, apart := false }
def FnMutantsSaid : Prop := fnMutantsRow.holds Try.pinned (OpenSpec.ofChange fnMutantsSpec)

/-- ITS FALSE NEIGHBOUR: 'it returns false'. Refute it at one input. -/
def fnMutantsWrong : ChangeSpec := { name := "fnMutants", fn := fun _ => fun
  | [d1, d2] => { results := [.lit (.bool false)], args := [d1, d2] }
  | _ => none }
def FnMutantsWrongFalsely : Prop := fnMutantsRow.holds Try.pinned (OpenSpec.ofChange fnMutantsWrong)

/- THE SECOND FORM. 'bulk': how many values and letters a reading holds, each counted each time it is reached (what is shared counts as often as it is met; a slice's spare places count too). A statement '..UptoSaid' is the law's where the arguments, and the package variables that the reading takes, are together of bulk at most 1048576: NARROWER than '..Said'. Prove '..Said' where nothing that the law and all that it calls make is longer than what came in: it says more and counts as full. Else prove '..UptoSaid'. A law counts once. -/
mutual
def uptoBulk {H : Type} : DataW H → Nat
  | .lit (.string bytes) => bytes.length + 1
  | .lit _ => 1
  | .nil => 1
  | .ptr d => uptoBulk d + 1
  | .slice elems spare => uptoBulkAll elems + uptoBulkAll spare + 1
  | .agg parts => uptoBulkAll parts + 1
  | .iface _ d => uptoBulk d + 1
  | .map entries => uptoBulkEntries entries + 1
  | .held _ => 1
def uptoBulkAll {H : Type} : List (DataW H) → Nat
  | [] => 0
  | d :: r => uptoBulk d + uptoBulkAll r
def uptoBulkEntries {H : Type} : List (Lit × DataW H) → Nat
  | [] => 0
  | x :: r => uptoBulkEntry x + uptoBulkEntries r
def uptoBulkEntry {H : Type} : Lit × DataW H → Nat
  | (.string bytes, d) => bytes.length + uptoBulk d + 1
  | (_, d) => uptoBulk d + 1
 end
def uptoSmall : (H : Type) → List (DataW H) → Bool := fun _ ds => decide (uptoBulkAll ds ≤ 1048576)
def OpenSpec.upto (s : _root_.Go.ChangeSpec) : _root_.Go.OpenSpec := { _root_.Go.OpenSpec.ofChange s with cond := some uptoSmall }

/-- 'laws.FnExactFirstFailing', WHERE WHAT IT READS IS OF BULK AT MOST 1048576: true; the input reads as it did. -/
def fnExactFirstFailingUptoRow : OpenClaim := { program := "ytnlajcnbmdldfaa", sum := "9efe924fb9217233ff982e2f76f1e23938795a2f29fce9b22d68adafb1e9b481", func := "loop.example/g01102/laws.FnExactFirstFailing", spec := "fnExactFirstFailing", unfollowed := true, recurses := true, plainKeys := false, apart := false, narrowed := true }
def FnExactFirstFailingUptoSaid : Prop := fnExactFirstFailingUptoRow.holds Try.pinned (OpenSpec.upto fnExactFirstFailingSpec)

/-- 'laws.FnExactPasses', WHERE WHAT IT READS IS OF BULK AT MOST 1048576: true; the input reads as it did. -/
def fnExactPassesUptoRow : OpenClaim := { program := "ytnlajcnbmdldfaa", sum := "9efe924fb9217233ff982e2f76f1e23938795a2f29fce9b22d68adafb1e9b481", func := "loop.example/g01102/laws.FnExactPasses", spec := "fnExactPasses", unfollowed := true, recurses := true, plainKeys := false, apart := false, narrowed := true }
def FnExactPassesUptoSaid : Prop := fnExactPassesUptoRow.holds Try.pinned (OpenSpec.upto fnExactPassesSpec)

/-- 'laws.FnExactStateCover', WHERE WHAT IT READS IS OF BULK AT MOST 1048576: true; the input reads as it did. -/
def fnExactStateCoverUptoRow : OpenClaim := { program := "ytnlajcnbmdldfaa", sum := "9efe924fb9217233ff982e2f76f1e23938795a2f29fce9b22d68adafb1e9b481", func := "loop.example/g01102/laws.FnExactStateCover", spec := "fnExactStateCover", unfollowed := true, recurses := true, plainKeys := false, apart := false, narrowed := true }
def FnExactStateCoverUptoSaid : Prop := fnExactStateCoverUptoRow.holds Try.pinned (OpenSpec.upto fnExactStateCoverSpec)

/-- 'laws.FnExactLampClasses', WHERE WHAT IT READS IS OF BULK AT MOST 1048576: true; the input reads as it did. -/
def fnExactLampClassesUptoRow : OpenClaim := { program := "ytnlajcnbmdldfaa", sum := "9efe924fb9217233ff982e2f76f1e23938795a2f29fce9b22d68adafb1e9b481", func := "loop.example/g01102/laws.FnExactLampClasses", spec := "fnExactLampClasses", unfollowed := true, recurses := true, plainKeys := false, apart := false, narrowed := true }
def FnExactLampClassesUptoSaid : Prop := fnExactLampClassesUptoRow.holds Try.pinned (OpenSpec.upto fnExactLampClassesSpec)

/-- 'laws.FnExactBelieved', WHERE WHAT IT READS IS OF BULK AT MOST 1048576: true; the input reads as it did. -/
def fnExactBelievedUptoRow : OpenClaim := { program := "ytnlajcnbmdldfaa", sum := "9efe924fb9217233ff982e2f76f1e23938795a2f29fce9b22d68adafb1e9b481", func := "loop.example/g01102/laws.FnExactBelieved", spec := "fnExactBelieved", unfollowed := true, recurses := true, plainKeys := false, apart := false, narrowed := true }
def FnExactBelievedUptoSaid : Prop := fnExactBelievedUptoRow.holds Try.pinned (OpenSpec.upto fnExactBelievedSpec)

/-- 'laws.FnExactMutantAt', WHERE WHAT IT READS IS OF BULK AT MOST 1048576: true; the input reads as it did. -/
def fnExactMutantAtUptoRow : OpenClaim := { program := "ytnlajcnbmdldfaa", sum := "9efe924fb9217233ff982e2f76f1e23938795a2f29fce9b22d68adafb1e9b481", func := "loop.example/g01102/laws.FnExactMutantAt", spec := "fnExactMutantAt", unfollowed := true, recurses := true, plainKeys := false, apart := false, narrowed := true }
def FnExactMutantAtUptoSaid : Prop := fnExactMutantAtUptoRow.holds Try.pinned (OpenSpec.upto fnExactMutantAtSpec)

/-- 'laws.FnExactKilledBy', WHERE WHAT IT READS IS OF BULK AT MOST 1048576: true; the input reads as it did. -/
def fnExactKilledByUptoRow : OpenClaim := { program := "ytnlajcnbmdldfaa", sum := "9efe924fb9217233ff982e2f76f1e23938795a2f29fce9b22d68adafb1e9b481", func := "loop.example/g01102/laws.FnExactKilledBy", spec := "fnExactKilledBy", unfollowed := true, recurses := true, plainKeys := false, apart := false, narrowed := true }
def FnExactKilledByUptoSaid : Prop := fnExactKilledByUptoRow.holds Try.pinned (OpenSpec.upto fnExactKilledBySpec)

/-- 'laws.FnExactAdaptiveDepth', WHERE WHAT IT READS IS OF BULK AT MOST 1048576: true; the input reads as it did. -/
def fnExactAdaptiveDepthUptoRow : OpenClaim := { program := "ytnlajcnbmdldfaa", sum := "9efe924fb9217233ff982e2f76f1e23938795a2f29fce9b22d68adafb1e9b481", func := "loop.example/g01102/laws.FnExactAdaptiveDepth", spec := "fnExactAdaptiveDepth", unfollowed := true, recurses := true, plainKeys := false, apart := false, narrowed := true }
def FnExactAdaptiveDepthUptoSaid : Prop := fnExactAdaptiveDepthUptoRow.holds Try.pinned (OpenSpec.upto fnExactAdaptiveDepthSpec)

/-- 'laws.FnExactCandidates', WHERE WHAT IT READS IS OF BULK AT MOST 1048576: true; the input reads as it did. -/
def fnExactCandidatesUptoRow : OpenClaim := { program := "ytnlajcnbmdldfaa", sum := "9efe924fb9217233ff982e2f76f1e23938795a2f29fce9b22d68adafb1e9b481", func := "loop.example/g01102/laws.FnExactCandidates", spec := "fnExactCandidates", unfollowed := true, recurses := true, plainKeys := false, apart := false, narrowed := true }
def FnExactCandidatesUptoSaid : Prop := fnExactCandidatesUptoRow.holds Try.pinned (OpenSpec.upto fnExactCandidatesSpec)

/-- 'laws.FnFailing', WHERE WHAT IT READS IS OF BULK AT MOST 1048576: true; the input reads as it did. -/
def fnFailingUptoRow : OpenClaim := { program := "ytnlajcnbmdldfaa", sum := "9efe924fb9217233ff982e2f76f1e23938795a2f29fce9b22d68adafb1e9b481", func := "loop.example/g01102/laws.FnFailing", spec := "fnFailing", unfollowed := true, recurses := true, plainKeys := false, apart := false, narrowed := true }
def FnFailingUptoSaid : Prop := fnFailingUptoRow.holds Try.pinned (OpenSpec.upto fnFailingSpec)

/-- 'laws.FnMutants', WHERE WHAT IT READS IS OF BULK AT MOST 1048576: true; the input reads as it did. -/
def fnMutantsUptoRow : OpenClaim := { program := "ytnlajcnbmdldfaa", sum := "9efe924fb9217233ff982e2f76f1e23938795a2f29fce9b22d68adafb1e9b481", func := "loop.example/g01102/laws.FnMutants", spec := "fnMutants", unfollowed := true, recurses := true, plainKeys := false, apart := false, narrowed := true }
def FnMutantsUptoSaid : Prop := fnMutantsUptoRow.holds Try.pinned (OpenSpec.upto fnMutantsSpec)

end Rows
end Go.Proofs.Ytnlajcnbmdldfaa
