/-
  No cell of these rows narrows 'for every input' (looked for: loops, veiled, ifaces, maps, wideKeys, modest, calm, conditions, laid).
  DERIVED. THE GIVEN ROWS OF THIS SEAT. 6 by the template 'for every input the law returns true; each argument reads behind the call as it read before'; 0 by the template 'total and deterministic' (their statements: YtiefnlfgiejpkaaTotals.lean).
  GIVEN WITH THE SEED: the statements are not yours to turn. If you find one false, say at which input.
  Laid BY PROGRAM, IN A SANDBOX (cutbox-rows.mjs): the forced cells as the released guide's own fill.sh prints them over the translation b9552ba3409c6acd… (all of the seat's roots in one cut). By AI agents, Wed Nov 11 2026. No macro, syntax, notation, axiom, sorry.
-/
import Derived.Test.YtiefnlfgiejpkaaChecked
import GoSem.Claim
import GoSem.ClaimJoined
import GoSem.ClaimMapViews
import Derived.JoinedTies
import Derived.KernelRfl
namespace Go.Proofs.Ytiefnlfgiejpkaa
/- THE CELL 'sum', in the pinned program and in every row, IS THE sha256 OF THE DUMP (.gsa) THAT YtiefnlfgiejpkaaProg.lean LOADS. Nothing in Lean hashes anything: it is a label: what it is worth is what the hold of that sum in a sandbox is worth. -/
noncomputable def Try.pinned : Pinned := { name := "ytiefnlfgiejpkaa", sum := "b9552ba3409c6acd097d651ca3c3430e2fd42cc061bcd66beb416175e36fec05", checked := Try.checked }
namespace Rows
def none {H : Type} : Left H := { results := [], args := [] }

/-- 'laws.FnExactValidDeed': WHATEVER THE INPUT: true; the input reads as it did. -/
def fnExactValidDeedSpec : ChangeSpec := { name := "fnExactValidDeed", fn := fun _ => fun
  | [d] => { results := [.lit (.bool true)], args := [d] }
  | _ => none }
def fnExactValidDeedRow : OpenClaim := { program := "ytiefnlfgiejpkaa", sum := "b9552ba3409c6acd097d651ca3c3430e2fd42cc061bcd66beb416175e36fec05", func := "loop.example/g01102/laws.FnExactValidDeed", spec := "fnExactValidDeed", apart := false }
def FnExactValidDeedSaid : Prop := fnExactValidDeedRow.holds Try.pinned (OpenSpec.ofChange fnExactValidDeedSpec)

/-- ITS FALSE NEIGHBOUR: 'it returns false'. Refute it at one input. -/
def fnExactValidDeedWrong : ChangeSpec := { name := "fnExactValidDeed", fn := fun _ => fun
  | [d] => { results := [.lit (.bool false)], args := [d] }
  | _ => none }
def FnExactValidDeedWrongFalsely : Prop := fnExactValidDeedRow.holds Try.pinned (OpenSpec.ofChange fnExactValidDeedWrong)

/-- 'laws.FnExactSuiteText': WHATEVER THE INPUT: true; the input reads as it did. -/
def fnExactSuiteTextSpec : ChangeSpec := { name := "fnExactSuiteText", fn := fun _ => fun
  | [d] => { results := [.lit (.bool true)], args := [d] }
  | _ => none }
def fnExactSuiteTextRow : OpenClaim := { program := "ytiefnlfgiejpkaa", sum := "b9552ba3409c6acd097d651ca3c3430e2fd42cc061bcd66beb416175e36fec05", func := "loop.example/g01102/laws.FnExactSuiteText", spec := "fnExactSuiteText", inPlace := ["internal/abi.NoEscape"], unfollowed := true, recurses := true, apart := false }
def FnExactSuiteTextSaid : Prop := fnExactSuiteTextRow.holds Try.pinned (OpenSpec.ofChange fnExactSuiteTextSpec)

/-- ITS FALSE NEIGHBOUR: 'it returns false'. Refute it at one input. -/
def fnExactSuiteTextWrong : ChangeSpec := { name := "fnExactSuiteText", fn := fun _ => fun
  | [d] => { results := [.lit (.bool false)], args := [d] }
  | _ => none }
def FnExactSuiteTextWrongFalsely : Prop := fnExactSuiteTextRow.holds Try.pinned (OpenSpec.ofChange fnExactSuiteTextWrong)

/-- 'laws.FnExactValidLit': WHATEVER THE INPUT: true; the input reads as it did. -/
def fnExactValidLitSpec : ChangeSpec := { name := "fnExactValidLit", fn := fun _ => fun
  | [d] => { results := [.lit (.bool true)], args := [d] }
  | _ => none }
def fnExactValidLitRow : OpenClaim := { program := "ytiefnlfgiejpkaa", sum := "b9552ba3409c6acd097d651ca3c3430e2fd42cc061bcd66beb416175e36fec05", func := "loop.example/g01102/laws.FnExactValidLit", spec := "fnExactValidLit", unfollowed := true, recurses := true, apart := false }
def FnExactValidLitSaid : Prop := fnExactValidLitRow.holds Try.pinned (OpenSpec.ofChange fnExactValidLitSpec)

/-- ITS FALSE NEIGHBOUR: 'it returns false'. Refute it at one input. -/
def fnExactValidLitWrong : ChangeSpec := { name := "fnExactValidLit", fn := fun _ => fun
  | [d] => { results := [.lit (.bool false)], args := [d] }
  | _ => none }
def FnExactValidLitWrongFalsely : Prop := fnExactValidLitRow.holds Try.pinned (OpenSpec.ofChange fnExactValidLitWrong)

/-- 'laws.FnExactSuiteCost': WHATEVER THE INPUT: true; the input reads as it did. -/
def fnExactSuiteCostSpec : ChangeSpec := { name := "fnExactSuiteCost", fn := fun _ => fun
  | [d] => { results := [.lit (.bool true)], args := [d] }
  | _ => none }
def fnExactSuiteCostRow : OpenClaim := { program := "ytiefnlfgiejpkaa", sum := "b9552ba3409c6acd097d651ca3c3430e2fd42cc061bcd66beb416175e36fec05", func := "loop.example/g01102/laws.FnExactSuiteCost", spec := "fnExactSuiteCost", inPlace := ["internal/abi.NoEscape"], unfollowed := true, recurses := true, apart := false }
def FnExactSuiteCostSaid : Prop := fnExactSuiteCostRow.holds Try.pinned (OpenSpec.ofChange fnExactSuiteCostSpec)

/-- ITS FALSE NEIGHBOUR: 'it returns false'. Refute it at one input. -/
def fnExactSuiteCostWrong : ChangeSpec := { name := "fnExactSuiteCost", fn := fun _ => fun
  | [d] => { results := [.lit (.bool false)], args := [d] }
  | _ => none }
def FnExactSuiteCostWrongFalsely : Prop := fnExactSuiteCostRow.holds Try.pinned (OpenSpec.ofChange fnExactSuiteCostWrong)

/-- 'laws.FnExactMutantCount': WHATEVER THE INPUT: true; the input reads as it did. -/
def fnExactMutantCountSpec : ChangeSpec := { name := "fnExactMutantCount", fn := fun _ => fun
  | [d] => { results := [.lit (.bool true)], args := [d] }
  | _ => none }
def fnExactMutantCountRow : OpenClaim := { program := "ytiefnlfgiejpkaa", sum := "b9552ba3409c6acd097d651ca3c3430e2fd42cc061bcd66beb416175e36fec05", func := "loop.example/g01102/laws.FnExactMutantCount", spec := "fnExactMutantCount", unfollowed := true, recurses := true, apart := false }
def FnExactMutantCountSaid : Prop := fnExactMutantCountRow.holds Try.pinned (OpenSpec.ofChange fnExactMutantCountSpec)

/-- ITS FALSE NEIGHBOUR: 'it returns false'. Refute it at one input. -/
def fnExactMutantCountWrong : ChangeSpec := { name := "fnExactMutantCount", fn := fun _ => fun
  | [d] => { results := [.lit (.bool false)], args := [d] }
  | _ => none }
def FnExactMutantCountWrongFalsely : Prop := fnExactMutantCountRow.holds Try.pinned (OpenSpec.ofChange fnExactMutantCountWrong)

/-- 'laws.FnExactValidSuite': WHATEVER THE INPUT: true; the input reads as it did. -/
def fnExactValidSuiteSpec : ChangeSpec := { name := "fnExactValidSuite", fn := fun _ => fun
  | [d1, d2] => { results := [.lit (.bool true)], args := [d1, d2] }
  | _ => none }
def fnExactValidSuiteRow : OpenClaim := { program := "ytiefnlfgiejpkaa", sum := "b9552ba3409c6acd097d651ca3c3430e2fd42cc061bcd66beb416175e36fec05", func := "loop.example/g01102/laws.FnExactValidSuite", spec := "fnExactValidSuite", unfollowed := true, recurses := true, apart := false }
def FnExactValidSuiteSaid : Prop := fnExactValidSuiteRow.holds Try.pinned (OpenSpec.ofChange fnExactValidSuiteSpec)

/-- ITS FALSE NEIGHBOUR: 'it returns false'. Refute it at one input. -/
def fnExactValidSuiteWrong : ChangeSpec := { name := "fnExactValidSuite", fn := fun _ => fun
  | [d1, d2] => { results := [.lit (.bool false)], args := [d1, d2] }
  | _ => none }
def FnExactValidSuiteWrongFalsely : Prop := fnExactValidSuiteRow.holds Try.pinned (OpenSpec.ofChange fnExactValidSuiteWrong)

/- THE SECOND FORM. 'bulk': how many values and letters a reading holds, each counted each time it is reached (what is shared counts as often as it is met; a slice's spare places count too). A statement '..UptoSaid' is the law's where the arguments, and the package variables that the reading takes, are together of bulk at most 1048576: NARROWER than '..Said'. Prove '..Said' where nothing that the law and all that it calls make is longer than what came in: it says more and counts as full. Else prove '..UptoSaid'. A law counts once. -/
mutual
def uptoBulk {H : Type} : DataW H → Nat
  | .lit (.string bytes) => bytes.length + 1
  | .lit _ => 1
  | .nil => 1
  | .ptr d => uptoBulk d + 1
  | .slice elems spare => uptoBulkAll elems + uptoBulkAll spare + 1
  | .agg parts => uptoBulkAll parts + 1
  | .iface _ d => uptoBulk d + 1
  | .map entries => uptoBulkEntries entries + 1
  | .held _ => 1
def uptoBulkAll {H : Type} : List (DataW H) → Nat
  | [] => 0
  | d :: r => uptoBulk d + uptoBulkAll r
def uptoBulkEntries {H : Type} : List (Lit × DataW H) → Nat
  | [] => 0
  | x :: r => uptoBulkEntry x + uptoBulkEntries r
def uptoBulkEntry {H : Type} : Lit × DataW H → Nat
  | (.string bytes, d) => bytes.length + uptoBulk d + 1
  | (_, d) => uptoBulk d + 1
 end
def uptoSmall : (H : Type) → List (DataW H) → Bool := fun _ ds => decide (uptoBulkAll ds ≤ 1048576)
def OpenSpec.upto (s : _root_.Go.ChangeSpec) : _root_.Go.OpenSpec := { _root_.Go.OpenSpec.ofChange s with cond := some uptoSmall }

/-- 'laws.FnExactValidDeed', WHERE WHAT IT READS IS OF BULK AT MOST 1048576: true; the input reads as it did. -/
def fnExactValidDeedUptoRow : OpenClaim := { program := "ytiefnlfgiejpkaa", sum := "b9552ba3409c6acd097d651ca3c3430e2fd42cc061bcd66beb416175e36fec05", func := "loop.example/g01102/laws.FnExactValidDeed", spec := "fnExactValidDeed", apart := false, narrowed := true }
def FnExactValidDeedUptoSaid : Prop := fnExactValidDeedUptoRow.holds Try.pinned (OpenSpec.upto fnExactValidDeedSpec)

/-- 'laws.FnExactSuiteText', WHERE WHAT IT READS IS OF BULK AT MOST 1048576: true; the input reads as it did. -/
def fnExactSuiteTextUptoRow : OpenClaim := { program := "ytiefnlfgiejpkaa", sum := "b9552ba3409c6acd097d651ca3c3430e2fd42cc061bcd66beb416175e36fec05", func := "loop.example/g01102/laws.FnExactSuiteText", spec := "fnExactSuiteText", inPlace := ["internal/abi.NoEscape"], unfollowed := true, recurses := true, apart := false, narrowed := true }
def FnExactSuiteTextUptoSaid : Prop := fnExactSuiteTextUptoRow.holds Try.pinned (OpenSpec.upto fnExactSuiteTextSpec)

/-- 'laws.FnExactValidLit', WHERE WHAT IT READS IS OF BULK AT MOST 1048576: true; the input reads as it did. -/
def fnExactValidLitUptoRow : OpenClaim := { program := "ytiefnlfgiejpkaa", sum := "b9552ba3409c6acd097d651ca3c3430e2fd42cc061bcd66beb416175e36fec05", func := "loop.example/g01102/laws.FnExactValidLit", spec := "fnExactValidLit", unfollowed := true, recurses := true, apart := false, narrowed := true }
def FnExactValidLitUptoSaid : Prop := fnExactValidLitUptoRow.holds Try.pinned (OpenSpec.upto fnExactValidLitSpec)

/-- 'laws.FnExactSuiteCost', WHERE WHAT IT READS IS OF BULK AT MOST 1048576: true; the input reads as it did. -/
def fnExactSuiteCostUptoRow : OpenClaim := { program := "ytiefnlfgiejpkaa", sum := "b9552ba3409c6acd097d651ca3c3430e2fd42cc061bcd66beb416175e36fec05", func := "loop.example/g01102/laws.FnExactSuiteCost", spec := "fnExactSuiteCost", inPlace := ["internal/abi.NoEscape"], unfollowed := true, recurses := true, apart := false, narrowed := true }
def FnExactSuiteCostUptoSaid : Prop := fnExactSuiteCostUptoRow.holds Try.pinned (OpenSpec.upto fnExactSuiteCostSpec)

/-- 'laws.FnExactMutantCount', WHERE WHAT IT READS IS OF BULK AT MOST 1048576: true; the input reads as it did. -/
def fnExactMutantCountUptoRow : OpenClaim := { program := "ytiefnlfgiejpkaa", sum := "b9552ba3409c6acd097d651ca3c3430e2fd42cc061bcd66beb416175e36fec05", func := "loop.example/g01102/laws.FnExactMutantCount", spec := "fnExactMutantCount", unfollowed := true, recurses := true, apart := false, narrowed := true }
def FnExactMutantCountUptoSaid : Prop := fnExactMutantCountUptoRow.holds Try.pinned (OpenSpec.upto fnExactMutantCountSpec)

/-- 'laws.FnExactValidSuite', WHERE WHAT IT READS IS OF BULK AT MOST 1048576: true; the input reads as it did. -/
def fnExactValidSuiteUptoRow : OpenClaim := { program := "ytiefnlfgiejpkaa", sum := "b9552ba3409c6acd097d651ca3c3430e2fd42cc061bcd66beb416175e36fec05", func := "loop.example/g01102/laws.FnExactValidSuite", spec := "fnExactValidSuite", unfollowed := true, recurses := true, apart := false, narrowed := true }
def FnExactValidSuiteUptoSaid : Prop := fnExactValidSuiteUptoRow.holds Try.pinned (OpenSpec.upto fnExactValidSuiteSpec)

end Rows
end Go.Proofs.Ytiefnlfgiejpkaa
