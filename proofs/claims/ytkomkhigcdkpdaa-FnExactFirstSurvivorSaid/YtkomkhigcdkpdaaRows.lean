/-
  No cell of these rows narrows 'for every input' (looked for: loops, veiled, ifaces, maps, wideKeys, modest, calm, conditions, laid).
  DERIVED. THE GIVEN ROWS OF THIS SEAT. 7 by the template 'for every input the law returns true; each argument reads behind the call as it read before'; 0 by the template 'total and deterministic' (their statements: YtkomkhigcdkpdaaTotals.lean).
  GIVEN WITH THE SEED: the statements are not yours to turn. If you find one false, say at which input.
  Laid BY PROGRAM, IN A SANDBOX (cutbox-rows.mjs): the forced cells as the released guide's own fill.sh prints them over the translation da076d632ac1abd2… (all of the seat's roots in one cut). By AI agents, Wed Nov 11 2026. No macro, syntax, notation, axiom, sorry.
-/
import Derived.Test.YtkomkhigcdkpdaaChecked
import GoSem.Claim
import GoSem.ClaimJoined
import GoSem.ClaimMapViews
import Derived.JoinedTies
import Derived.KernelRfl
namespace Go.Proofs.Ytkomkhigcdkpdaa
/- THE CELL 'sum', in the pinned program and in every row, IS THE sha256 OF THE DUMP (.gsa) THAT YtkomkhigcdkpdaaProg.lean LOADS. Nothing in Lean hashes anything: it is a label: what it is worth is what the hold of that sum in a sandbox is worth. -/
noncomputable def Try.pinned : Pinned := { name := "ytkomkhigcdkpdaa", sum := "da076d632ac1abd26a04c5596b9fea7e1aef18ca52e7b9ab07d1e0c70af2450d", checked := Try.checked }
namespace Rows
def none {H : Type} : Left H := { results := [], args := [] }

/-- 'laws.FnExactAdaptiveDepth': WHATEVER THE INPUT: true; the input reads as it did. -/
def fnExactAdaptiveDepthSpec : ChangeSpec := { name := "fnExactAdaptiveDepth", fn := fun _ => fun
  | [d1, d2] => { results := [.lit (.bool true)], args := [d1, d2] }
  | _ => none }
def fnExactAdaptiveDepthRow : OpenClaim := { program := "ytkomkhigcdkpdaa", sum := "da076d632ac1abd26a04c5596b9fea7e1aef18ca52e7b9ab07d1e0c70af2450d", func := "loop.example/g01102/laws.FnExactAdaptiveDepth", spec := "fnExactAdaptiveDepth", unfollowed := true, recurses := true, plainKeys := false, apart := false }
def FnExactAdaptiveDepthSaid : Prop := fnExactAdaptiveDepthRow.holds Try.pinned (OpenSpec.ofChange fnExactAdaptiveDepthSpec)

/-- ITS FALSE NEIGHBOUR: 'it returns false'. Refute it at one input. -/
def fnExactAdaptiveDepthWrong : ChangeSpec := { name := "fnExactAdaptiveDepth", fn := fun _ => fun
  | [d1, d2] => { results := [.lit (.bool false)], args := [d1, d2] }
  | _ => none }
def FnExactAdaptiveDepthWrongFalsely : Prop := fnExactAdaptiveDepthRow.holds Try.pinned (OpenSpec.ofChange fnExactAdaptiveDepthWrong)

/-- 'laws.FnExactAdaptiveLetter': WHATEVER THE INPUT: true; the input reads as it did. -/
def fnExactAdaptiveLetterSpec : ChangeSpec := { name := "fnExactAdaptiveLetter", fn := fun _ => fun
  | [d1, d2] => { results := [.lit (.bool true)], args := [d1, d2] }
  | _ => none }
def fnExactAdaptiveLetterRow : OpenClaim := { program := "ytkomkhigcdkpdaa", sum := "da076d632ac1abd26a04c5596b9fea7e1aef18ca52e7b9ab07d1e0c70af2450d", func := "loop.example/g01102/laws.FnExactAdaptiveLetter", spec := "fnExactAdaptiveLetter", unfollowed := true, recurses := true, plainKeys := false, apart := false }
def FnExactAdaptiveLetterSaid : Prop := fnExactAdaptiveLetterRow.holds Try.pinned (OpenSpec.ofChange fnExactAdaptiveLetterSpec)

/-- ITS FALSE NEIGHBOUR: 'it returns false'. Refute it at one input. -/
def fnExactAdaptiveLetterWrong : ChangeSpec := { name := "fnExactAdaptiveLetter", fn := fun _ => fun
  | [d1, d2] => { results := [.lit (.bool false)], args := [d1, d2] }
  | _ => none }
def FnExactAdaptiveLetterWrongFalsely : Prop := fnExactAdaptiveLetterRow.holds Try.pinned (OpenSpec.ofChange fnExactAdaptiveLetterWrong)

/-- 'laws.FnExactAdaptiveRun': WHATEVER THE INPUT: true; the input reads as it did. -/
def fnExactAdaptiveRunSpec : ChangeSpec := { name := "fnExactAdaptiveRun", fn := fun _ => fun
  | [d1, d2, d3] => { results := [.lit (.bool true)], args := [d1, d2, d3] }
  | _ => none }
def fnExactAdaptiveRunRow : OpenClaim := { program := "ytkomkhigcdkpdaa", sum := "da076d632ac1abd26a04c5596b9fea7e1aef18ca52e7b9ab07d1e0c70af2450d", func := "loop.example/g01102/laws.FnExactAdaptiveRun", spec := "fnExactAdaptiveRun", unfollowed := true, recurses := true, plainKeys := false, apart := false }
def FnExactAdaptiveRunSaid : Prop := fnExactAdaptiveRunRow.holds Try.pinned (OpenSpec.ofChange fnExactAdaptiveRunSpec)

/-- ITS FALSE NEIGHBOUR: 'it returns false'. Refute it at one input. -/
def fnExactAdaptiveRunWrong : ChangeSpec := { name := "fnExactAdaptiveRun", fn := fun _ => fun
  | [d1, d2, d3] => { results := [.lit (.bool false)], args := [d1, d2, d3] }
  | _ => none }
def FnExactAdaptiveRunWrongFalsely : Prop := fnExactAdaptiveRunRow.holds Try.pinned (OpenSpec.ofChange fnExactAdaptiveRunWrong)

/-- 'laws.FnExactBestWord': WHATEVER THE INPUT: true; the input reads as it did. -/
def fnExactBestWordSpec : ChangeSpec := { name := "fnExactBestWord", fn := fun _ => fun
  | [d1, d2] => { results := [.lit (.bool true)], args := [d1, d2] }
  | _ => none }
def fnExactBestWordRow : OpenClaim := { program := "ytkomkhigcdkpdaa", sum := "da076d632ac1abd26a04c5596b9fea7e1aef18ca52e7b9ab07d1e0c70af2450d", func := "loop.example/g01102/laws.FnExactBestWord", spec := "fnExactBestWord", unfollowed := true, recurses := true, plainKeys := false, apart := false }
def FnExactBestWordSaid : Prop := fnExactBestWordRow.holds Try.pinned (OpenSpec.ofChange fnExactBestWordSpec)

/-- ITS FALSE NEIGHBOUR: 'it returns false'. Refute it at one input. -/
def fnExactBestWordWrong : ChangeSpec := { name := "fnExactBestWord", fn := fun _ => fun
  | [d1, d2] => { results := [.lit (.bool false)], args := [d1, d2] }
  | _ => none }
def FnExactBestWordWrongFalsely : Prop := fnExactBestWordRow.holds Try.pinned (OpenSpec.ofChange fnExactBestWordWrong)

/-- 'laws.FnExactShrinkSuite': WHATEVER THE INPUT: true; the input reads as it did. -/
def fnExactShrinkSuiteSpec : ChangeSpec := { name := "fnExactShrinkSuite", fn := fun _ => fun
  | [d1, d2] => { results := [.lit (.bool true)], args := [d1, d2] }
  | _ => none }
def fnExactShrinkSuiteRow : OpenClaim := { program := "ytkomkhigcdkpdaa", sum := "da076d632ac1abd26a04c5596b9fea7e1aef18ca52e7b9ab07d1e0c70af2450d", func := "loop.example/g01102/laws.FnExactShrinkSuite", spec := "fnExactShrinkSuite", unfollowed := true, recurses := true, plainKeys := false, apart := false }
def FnExactShrinkSuiteSaid : Prop := fnExactShrinkSuiteRow.holds Try.pinned (OpenSpec.ofChange fnExactShrinkSuiteSpec)

/-- ITS FALSE NEIGHBOUR: 'it returns false'. Refute it at one input. -/
def fnExactShrinkSuiteWrong : ChangeSpec := { name := "fnExactShrinkSuite", fn := fun _ => fun
  | [d1, d2] => { results := [.lit (.bool false)], args := [d1, d2] }
  | _ => none }
def FnExactShrinkSuiteWrongFalsely : Prop := fnExactShrinkSuiteRow.holds Try.pinned (OpenSpec.ofChange fnExactShrinkSuiteWrong)

/-- 'laws.FnExactCoverageOf': WHATEVER THE INPUT: true; the input reads as it did. -/
def fnExactCoverageOfSpec : ChangeSpec := { name := "fnExactCoverageOf", fn := fun _ => fun
  | [d1, d2] => { results := [.lit (.bool true)], args := [d1, d2] }
  | _ => none }
def fnExactCoverageOfRow : OpenClaim := { program := "ytkomkhigcdkpdaa", sum := "da076d632ac1abd26a04c5596b9fea7e1aef18ca52e7b9ab07d1e0c70af2450d", func := "loop.example/g01102/laws.FnExactCoverageOf", spec := "fnExactCoverageOf", unfollowed := true, recurses := true, plainKeys := false, apart := false }
def FnExactCoverageOfSaid : Prop := fnExactCoverageOfRow.holds Try.pinned (OpenSpec.ofChange fnExactCoverageOfSpec)

/-- ITS FALSE NEIGHBOUR: 'it returns false'. Refute it at one input. -/
def fnExactCoverageOfWrong : ChangeSpec := { name := "fnExactCoverageOf", fn := fun _ => fun
  | [d1, d2] => { results := [.lit (.bool false)], args := [d1, d2] }
  | _ => none }
def FnExactCoverageOfWrongFalsely : Prop := fnExactCoverageOfRow.holds Try.pinned (OpenSpec.ofChange fnExactCoverageOfWrong)

/-- 'laws.FnExactFirstSurvivor': WHATEVER THE INPUT: true; the input reads as it did. -/
def fnExactFirstSurvivorSpec : ChangeSpec := { name := "fnExactFirstSurvivor", fn := fun _ => fun
  | [d1, d2, d3] => { results := [.lit (.bool true)], args := [d1, d2, d3] }
  | _ => none }
def fnExactFirstSurvivorRow : OpenClaim := { program := "ytkomkhigcdkpdaa", sum := "da076d632ac1abd26a04c5596b9fea7e1aef18ca52e7b9ab07d1e0c70af2450d", func := "loop.example/g01102/laws.FnExactFirstSurvivor", spec := "fnExactFirstSurvivor", unfollowed := true, recurses := true, plainKeys := false, apart := false }
def FnExactFirstSurvivorSaid : Prop := fnExactFirstSurvivorRow.holds Try.pinned (OpenSpec.ofChange fnExactFirstSurvivorSpec)

/-- ITS FALSE NEIGHBOUR: 'it returns false'. Refute it at one input. -/
def fnExactFirstSurvivorWrong : ChangeSpec := { name := "fnExactFirstSurvivor", fn := fun _ => fun
  | [d1, d2, d3] => { results := [.lit (.bool false)], args := [d1, d2, d3] }
  | _ => none }
def FnExactFirstSurvivorWrongFalsely : Prop := fnExactFirstSurvivorRow.holds Try.pinned (OpenSpec.ofChange fnExactFirstSurvivorWrong)

/- THE SECOND FORM. 'bulk': how many values and letters a reading holds, each counted each time it is reached (what is shared counts as often as it is met; a slice's spare places count too). A statement '..UptoSaid' is the law's where the arguments, and the package variables that the reading takes, are together of bulk at most 1048576: NARROWER than '..Said'. Prove '..Said' where nothing that the law and all that it calls make is longer than what came in: it says more and counts as full. Else prove '..UptoSaid'. A law counts once. -/
mutual
def uptoBulk {H : Type} : DataW H → Nat
  | .lit (.string bytes) => bytes.length + 1
  | .lit _ => 1
  | .nil => 1
  | .ptr d => uptoBulk d + 1
  | .slice elems spare => uptoBulkAll elems + uptoBulkAll spare + 1
  | .agg parts => uptoBulkAll parts + 1
  | .iface _ d => uptoBulk d + 1
  | .map entries => uptoBulkEntries entries + 1
  | .held _ => 1
def uptoBulkAll {H : Type} : List (DataW H) → Nat
  | [] => 0
  | d :: r => uptoBulk d + uptoBulkAll r
def uptoBulkEntries {H : Type} : List (Lit × DataW H) → Nat
  | [] => 0
  | x :: r => uptoBulkEntry x + uptoBulkEntries r
def uptoBulkEntry {H : Type} : Lit × DataW H → Nat
  | (.string bytes, d) => bytes.length + uptoBulk d + 1
  | (_, d) => uptoBulk d + 1
 end
def uptoSmall : (H : Type) → List (DataW H) → Bool := fun _ ds => decide (uptoBulkAll ds ≤ 1048576)
def OpenSpec.upto (s : _root_.Go.ChangeSpec) : _root_.Go.OpenSpec := { _root_.Go.OpenSpec.ofChange s with cond := some uptoSmall }

/-- 'laws.FnExactAdaptiveDepth', WHERE WHAT IT READS IS OF BULK AT MOST 1048576: true; the input reads as it did. -/
def fnExactAdaptiveDepthUptoRow : OpenClaim := { program := "ytkomkhigcdkpdaa", sum := "da076d632ac1abd26a04c5596b9fea7e1aef18ca52e7b9ab07d1e0c70af2450d", func := "loop.example/g01102/laws.FnExactAdaptiveDepth", spec := "fnExactAdaptiveDepth", unfollowed := true, recurses := true, plainKeys := false, apart := false, narrowed := true }
def FnExactAdaptiveDepthUptoSaid : Prop := fnExactAdaptiveDepthUptoRow.holds Try.pinned (OpenSpec.upto fnExactAdaptiveDepthSpec)

/-- 'laws.FnExactAdaptiveLetter', WHERE WHAT IT READS IS OF BULK AT MOST 1048576: true; the input reads as it did. -/
def fnExactAdaptiveLetterUptoRow : OpenClaim := { program := "ytkomkhigcdkpdaa", sum := "da076d632ac1abd26a04c5596b9fea7e1aef18ca52e7b9ab07d1e0c70af2450d", func := "loop.example/g01102/laws.FnExactAdaptiveLetter", spec := "fnExactAdaptiveLetter", unfollowed := true, recurses := true, plainKeys := false, apart := false, narrowed := true }
def FnExactAdaptiveLetterUptoSaid : Prop := fnExactAdaptiveLetterUptoRow.holds Try.pinned (OpenSpec.upto fnExactAdaptiveLetterSpec)

/-- 'laws.FnExactAdaptiveRun', WHERE WHAT IT READS IS OF BULK AT MOST 1048576: true; the input reads as it did. -/
def fnExactAdaptiveRunUptoRow : OpenClaim := { program := "ytkomkhigcdkpdaa", sum := "da076d632ac1abd26a04c5596b9fea7e1aef18ca52e7b9ab07d1e0c70af2450d", func := "loop.example/g01102/laws.FnExactAdaptiveRun", spec := "fnExactAdaptiveRun", unfollowed := true, recurses := true, plainKeys := false, apart := false, narrowed := true }
def FnExactAdaptiveRunUptoSaid : Prop := fnExactAdaptiveRunUptoRow.holds Try.pinned (OpenSpec.upto fnExactAdaptiveRunSpec)

/-- 'laws.FnExactBestWord', WHERE WHAT IT READS IS OF BULK AT MOST 1048576: true; the input reads as it did. -/
def fnExactBestWordUptoRow : OpenClaim := { program := "ytkomkhigcdkpdaa", sum := "da076d632ac1abd26a04c5596b9fea7e1aef18ca52e7b9ab07d1e0c70af2450d", func := "loop.example/g01102/laws.FnExactBestWord", spec := "fnExactBestWord", unfollowed := true, recurses := true, plainKeys := false, apart := false, narrowed := true }
def FnExactBestWordUptoSaid : Prop := fnExactBestWordUptoRow.holds Try.pinned (OpenSpec.upto fnExactBestWordSpec)

/-- 'laws.FnExactShrinkSuite', WHERE WHAT IT READS IS OF BULK AT MOST 1048576: true; the input reads as it did. -/
def fnExactShrinkSuiteUptoRow : OpenClaim := { program := "ytkomkhigcdkpdaa", sum := "da076d632ac1abd26a04c5596b9fea7e1aef18ca52e7b9ab07d1e0c70af2450d", func := "loop.example/g01102/laws.FnExactShrinkSuite", spec := "fnExactShrinkSuite", unfollowed := true, recurses := true, plainKeys := false, apart := false, narrowed := true }
def FnExactShrinkSuiteUptoSaid : Prop := fnExactShrinkSuiteUptoRow.holds Try.pinned (OpenSpec.upto fnExactShrinkSuiteSpec)

/-- 'laws.FnExactCoverageOf', WHERE WHAT IT READS IS OF BULK AT MOST 1048576: true; the input reads as it did. -/
def fnExactCoverageOfUptoRow : OpenClaim := { program := "ytkomkhigcdkpdaa", sum := "da076d632ac1abd26a04c5596b9fea7e1aef18ca52e7b9ab07d1e0c70af2450d", func := "loop.example/g01102/laws.FnExactCoverageOf", spec := "fnExactCoverageOf", unfollowed := true, recurses := true, plainKeys := false, apart := false, narrowed := true }
def FnExactCoverageOfUptoSaid : Prop := fnExactCoverageOfUptoRow.holds Try.pinned (OpenSpec.upto fnExactCoverageOfSpec)

/-- 'laws.FnExactFirstSurvivor', WHERE WHAT IT READS IS OF BULK AT MOST 1048576: true; the input reads as it did. -/
def fnExactFirstSurvivorUptoRow : OpenClaim := { program := "ytkomkhigcdkpdaa", sum := "da076d632ac1abd26a04c5596b9fea7e1aef18ca52e7b9ab07d1e0c70af2450d", func := "loop.example/g01102/laws.FnExactFirstSurvivor", spec := "fnExactFirstSurvivor", unfollowed := true, recurses := true, plainKeys := false, apart := false, narrowed := true }
def FnExactFirstSurvivorUptoSaid : Prop := fnExactFirstSurvivorUptoRow.holds Try.pinned (OpenSpec.upto fnExactFirstSurvivorSpec)

end Rows
end Go.Proofs.Ytkomkhigcdkpdaa
