/-
  No cell of these rows narrows 'for every input' (looked for: loops, veiled, ifaces, maps, wideKeys, modest, calm, conditions, laid).
  DERIVED. THE GIVEN ROWS OF THIS SEAT. 5 by the template 'for every input the law returns true; each argument reads behind the call as it read before'; 0 by the template 'total and deterministic' (their statements: YtkaffmojojnhhaaTotals.lean).
  GIVEN WITH THE SEED: the statements are not yours to turn. If you find one false, say at which input.
  Laid BY PROGRAM, IN A SANDBOX (cutbox-rows.mjs): the forced cells as the released guide's own fill.sh prints them over the translation 1f6a7169f7dad46d… (all of the seat's roots in one cut). By AI agents, Wed Nov 11 2026. No macro, syntax, notation, axiom, sorry.
-/
import Derived.Test.YtkaffmojojnhhaaChecked
import GoSem.Claim
import GoSem.ClaimJoined
import GoSem.ClaimMapViews
import Derived.JoinedTies
import Derived.KernelRfl
namespace Go.Proofs.Ytkaffmojojnhhaa
/- THE CELL 'sum', in the pinned program and in every row, IS THE sha256 OF THE DUMP (.gsa) THAT YtkaffmojojnhhaaProg.lean LOADS. Nothing in Lean hashes anything: it is a label: what it is worth is what the hold of that sum in a sandbox is worth. -/
noncomputable def Try.pinned : Pinned := { name := "ytkaffmojojnhhaa", sum := "1f6a7169f7dad46d669116343d7c0bd7407b83993da90c5b0b92c6cca9981b51", checked := Try.checked }
namespace Rows
def none {H : Type} : Left H := { results := [], args := [] }

/-- 'laws.FnExactBestWord': WHATEVER THE INPUT: true; the input reads as it did. -/
def fnExactBestWordSpec : ChangeSpec := { name := "fnExactBestWord", fn := fun _ => fun
  | [d1, d2] => { results := [.lit (.bool true)], args := [d1, d2] }
  | _ => none }
def fnExactBestWordRow : OpenClaim := { program := "ytkaffmojojnhhaa", sum := "1f6a7169f7dad46d669116343d7c0bd7407b83993da90c5b0b92c6cca9981b51", func := "loop.example/g01102/laws.FnExactBestWord", spec := "fnExactBestWord", unfollowed := true, recurses := true, plainKeys := false, apart := false }
def FnExactBestWordSaid : Prop := fnExactBestWordRow.holds Try.pinned (OpenSpec.ofChange fnExactBestWordSpec)

/-- ITS FALSE NEIGHBOUR: 'it returns false'. Refute it at one input. -/
def fnExactBestWordWrong : ChangeSpec := { name := "fnExactBestWord", fn := fun _ => fun
  | [d1, d2] => { results := [.lit (.bool false)], args := [d1, d2] }
  | _ => none }
def FnExactBestWordWrongFalsely : Prop := fnExactBestWordRow.holds Try.pinned (OpenSpec.ofChange fnExactBestWordWrong)

/-- 'laws.FnBest': WHATEVER THE INPUT: true; the input reads as it did. -/
def fnBestSpec : ChangeSpec := { name := "fnBest", fn := fun _ => fun
  | [d1, d2] => { results := [.lit (.bool true)], args := [d1, d2] }
  | _ => none }
def fnBestRow : OpenClaim := { program := "ytkaffmojojnhhaa", sum := "1f6a7169f7dad46d669116343d7c0bd7407b83993da90c5b0b92c6cca9981b51", func := "loop.example/g01102/laws.FnBest", spec := "fnBest", unfollowed := true, recurses := true, plainKeys := false, apart := false }
def FnBestSaid : Prop := fnBestRow.holds Try.pinned (OpenSpec.ofChange fnBestSpec)

/-- ITS FALSE NEIGHBOUR: 'it returns false'. Refute it at one input. -/
def fnBestWrong : ChangeSpec := { name := "fnBest", fn := fun _ => fun
  | [d1, d2] => { results := [.lit (.bool false)], args := [d1, d2] }
  | _ => none }
def FnBestWrongFalsely : Prop := fnBestRow.holds Try.pinned (OpenSpec.ofChange fnBestWrong)

/-- 'laws.FnSurvivor': WHATEVER THE INPUT: true; the input reads as it did. -/
def fnSurvivorSpec : ChangeSpec := { name := "fnSurvivor", fn := fun _ => fun
  | [d1, d2] => { results := [.lit (.bool true)], args := [d1, d2] }
  | _ => none }
def fnSurvivorRow : OpenClaim := { program := "ytkaffmojojnhhaa", sum := "1f6a7169f7dad46d669116343d7c0bd7407b83993da90c5b0b92c6cca9981b51", func := "loop.example/g01102/laws.FnSurvivor", spec := "fnSurvivor", unfollowed := true, recurses := true, plainKeys := false, apart := false }
def FnSurvivorSaid : Prop := fnSurvivorRow.holds Try.pinned (OpenSpec.ofChange fnSurvivorSpec)

/-- ITS FALSE NEIGHBOUR: 'it returns false'. Refute it at one input. -/
def fnSurvivorWrong : ChangeSpec := { name := "fnSurvivor", fn := fun _ => fun
  | [d1, d2] => { results := [.lit (.bool false)], args := [d1, d2] }
  | _ => none }
def FnSurvivorWrongFalsely : Prop := fnSurvivorRow.holds Try.pinned (OpenSpec.ofChange fnSurvivorWrong)

/-- 'laws.FnExactStateCover': WHATEVER THE INPUT: true; the input reads as it did. -/
def fnExactStateCoverSpec : ChangeSpec := { name := "fnExactStateCover", fn := fun _ => fun
  | [d] => { results := [.lit (.bool true)], args := [d] }
  | _ => none }
def fnExactStateCoverRow : OpenClaim := { program := "ytkaffmojojnhhaa", sum := "1f6a7169f7dad46d669116343d7c0bd7407b83993da90c5b0b92c6cca9981b51", func := "loop.example/g01102/laws.FnExactStateCover", spec := "fnExactStateCover", unfollowed := true, recurses := true, plainKeys := false, apart := false }
def FnExactStateCoverSaid : Prop := fnExactStateCoverRow.holds Try.pinned (OpenSpec.ofChange fnExactStateCoverSpec)

/-- ITS FALSE NEIGHBOUR: 'it returns false'. Refute it at one input. -/
def fnExactStateCoverWrong : ChangeSpec := { name := "fnExactStateCover", fn := fun _ => fun
  | [d] => { results := [.lit (.bool false)], args := [d] }
  | _ => none }
def FnExactStateCoverWrongFalsely : Prop := fnExactStateCoverRow.holds Try.pinned (OpenSpec.ofChange fnExactStateCoverWrong)

/-- 'laws.FnExactTransitionCover': WHATEVER THE INPUT: true; the input reads as it did. -/
def fnExactTransitionCoverSpec : ChangeSpec := { name := "fnExactTransitionCover", fn := fun _ => fun
  | [d] => { results := [.lit (.bool true)], args := [d] }
  | _ => none }
def fnExactTransitionCoverRow : OpenClaim := { program := "ytkaffmojojnhhaa", sum := "1f6a7169f7dad46d669116343d7c0bd7407b83993da90c5b0b92c6cca9981b51", func := "loop.example/g01102/laws.FnExactTransitionCover", spec := "fnExactTransitionCover", unfollowed := true, recurses := true, plainKeys := false, apart := false }
def FnExactTransitionCoverSaid : Prop := fnExactTransitionCoverRow.holds Try.pinned (OpenSpec.ofChange fnExactTransitionCoverSpec)

/-- ITS FALSE NEIGHBOUR: 'it returns false'. Refute it at one input. -/
def fnExactTransitionCoverWrong : ChangeSpec := { name := "fnExactTransitionCover", fn := fun _ => fun
  | [d] => { results := [.lit (.bool false)], args := [d] }
  | _ => none }
def FnExactTransitionCoverWrongFalsely : Prop := fnExactTransitionCoverRow.holds Try.pinned (OpenSpec.ofChange fnExactTransitionCoverWrong)

/- THE SECOND FORM. 'bulk': how many values and letters a reading holds, each counted each time it is reached (what is shared counts as often as it is met; a slice's spare places count too). A statement '..UptoSaid' is the law's where the arguments, and the package variables that the reading takes, are together of bulk at most 1048576: NARROWER than '..Said'. Prove '..Said' where nothing that the law and all that it calls make is longer than what came in: it says more and counts as full. Else prove '..UptoSaid'. A law counts once. -/
mutual
def uptoBulk {H : Type} : DataW H → Nat
  | .lit (.string bytes) => bytes.length + 1
  | .lit _ => 1
  | .nil => 1
  | .ptr d => uptoBulk d + 1
  | .slice elems spare => uptoBulkAll elems + uptoBulkAll spare + 1
  | .agg parts => uptoBulkAll parts + 1
  | .iface _ d => uptoBulk d + 1
  | .map entries => uptoBulkEntries entries + 1
  | .held _ => 1
def uptoBulkAll {H : Type} : List (DataW H) → Nat
  | [] => 0
  | d :: r => uptoBulk d + uptoBulkAll r
def uptoBulkEntries {H : Type} : List (Lit × DataW H) → Nat
  | [] => 0
  | x :: r => uptoBulkEntry x + uptoBulkEntries r
def uptoBulkEntry {H : Type} : Lit × DataW H → Nat
  | (.string bytes, d) => bytes.length + uptoBulk d + 1
  | (_, d) => uptoBulk d + 1
 end
def uptoSmall : (H : Type) → List (DataW H) → Bool := fun _ ds => decide (uptoBulkAll ds ≤ 1048576)
def OpenSpec.upto (s : _root_.Go.ChangeSpec) : _root_.Go.OpenSpec := { _root_.Go.OpenSpec.ofChange s with cond := some uptoSmall }

/-- 'laws.FnExactBestWord', WHERE WHAT IT READS IS OF BULK AT MOST 1048576: true; the input reads as it did. -/
def fnExactBestWordUptoRow : OpenClaim := { program := "ytkaffmojojnhhaa", sum := "1f6a7169f7dad46d669116343d7c0bd7407b83993da90c5b0b92c6cca9981b51", func := "loop.example/g01102/laws.FnExactBestWord", spec := "fnExactBestWord", unfollowed := true, recurses := true, plainKeys := false, apart := false, narrowed := true }
def FnExactBestWordUptoSaid : Prop := fnExactBestWordUptoRow.holds Try.pinned (OpenSpec.upto fnExactBestWordSpec)

/-- 'laws.FnBest', WHERE WHAT IT READS IS OF BULK AT MOST 1048576: true; the input reads as it did. -/
def fnBestUptoRow : OpenClaim := { program := "ytkaffmojojnhhaa", sum := "1f6a7169f7dad46d669116343d7c0bd7407b83993da90c5b0b92c6cca9981b51", func := "loop.example/g01102/laws.FnBest", spec := "fnBest", unfollowed := true, recurses := true, plainKeys := false, apart := false, narrowed := true }
def FnBestUptoSaid : Prop := fnBestUptoRow.holds Try.pinned (OpenSpec.upto fnBestSpec)

/-- 'laws.FnSurvivor', WHERE WHAT IT READS IS OF BULK AT MOST 1048576: true; the input reads as it did. -/
def fnSurvivorUptoRow : OpenClaim := { program := "ytkaffmojojnhhaa", sum := "1f6a7169f7dad46d669116343d7c0bd7407b83993da90c5b0b92c6cca9981b51", func := "loop.example/g01102/laws.FnSurvivor", spec := "fnSurvivor", unfollowed := true, recurses := true, plainKeys := false, apart := false, narrowed := true }
def FnSurvivorUptoSaid : Prop := fnSurvivorUptoRow.holds Try.pinned (OpenSpec.upto fnSurvivorSpec)

/-- 'laws.FnExactStateCover', WHERE WHAT IT READS IS OF BULK AT MOST 1048576: true; the input reads as it did. -/
def fnExactStateCoverUptoRow : OpenClaim := { program := "ytkaffmojojnhhaa", sum := "1f6a7169f7dad46d669116343d7c0bd7407b83993da90c5b0b92c6cca9981b51", func := "loop.example/g01102/laws.FnExactStateCover", spec := "fnExactStateCover", unfollowed := true, recurses := true, plainKeys := false, apart := false, narrowed := true }
def FnExactStateCoverUptoSaid : Prop := fnExactStateCoverUptoRow.holds Try.pinned (OpenSpec.upto fnExactStateCoverSpec)

/-- 'laws.FnExactTransitionCover', WHERE WHAT IT READS IS OF BULK AT MOST 1048576: true; the input reads as it did. -/
def fnExactTransitionCoverUptoRow : OpenClaim := { program := "ytkaffmojojnhhaa", sum := "1f6a7169f7dad46d669116343d7c0bd7407b83993da90c5b0b92c6cca9981b51", func := "loop.example/g01102/laws.FnExactTransitionCover", spec := "fnExactTransitionCover", unfollowed := true, recurses := true, plainKeys := false, apart := false, narrowed := true }
def FnExactTransitionCoverUptoSaid : Prop := fnExactTransitionCoverUptoRow.holds Try.pinned (OpenSpec.upto fnExactTransitionCoverSpec)

end Rows
end Go.Proofs.Ytkaffmojojnhhaa
