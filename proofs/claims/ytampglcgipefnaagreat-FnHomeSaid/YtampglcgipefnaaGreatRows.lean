/-
  No cell of these rows narrows 'for every input' (looked for: loops, veiled, ifaces, maps, wideKeys, modest, calm, conditions, laid).
  DERIVED. THE GIVEN ROWS OF THIS SEAT. 6 by the template 'for every input the law returns true; each argument reads behind the call as it read before'; 0 by the template 'total and deterministic' (their statements: YtampglcgipefnaaGreatTotals.lean).
  GIVEN WITH THE SEED: the statements are not yours to turn. If you find one false, say at which input.
  Laid BY PROGRAM, IN A SANDBOX (cutbox-rows.mjs): the forced cells as the released guide's own fill.sh prints them over the translation 40cdbffc6309e432… (all of the seat's roots in one cut). By AI agents, Wed Nov 11 2026. No macro, syntax, notation, axiom, sorry.
-/
import Derived.Test.YtampglcgipefnaaGreatChecked
import GoSem.Claim
import GoSem.ClaimJoined
import GoSem.ClaimMapViews
import Derived.JoinedTies
import Derived.KernelRfl
namespace Go.Proofs.YtampglcgipefnaaGreat
/- THE CELL 'sum', in the pinned program and in every row, IS THE sha256 OF THE DUMP (.gsa) THAT YtampglcgipefnaaGreatProg.lean LOADS. Nothing in Lean hashes anything: it is a label: what it is worth is what the hold of that sum in a sandbox is worth. -/
noncomputable def Tryz.pinned : Pinned := { name := "ytampglcgipefnaagreat", sum := "40cdbffc6309e4323b6e8acae34175ebac08e838265bf9f603f986500c3d610c", checked := Tryz.checked }
namespace Rows
def none {H : Type} : Left H := { results := [], args := [] }

/-- 'laws.FnExactRefusedDeed': WHATEVER THE INPUT: true; the input reads as it did. -/
def fnExactRefusedDeedSpec : ChangeSpec := { name := "fnExactRefusedDeed", fn := fun _ => fun
  | [d1, d2, d3] => { results := [.lit (.bool true)], args := [d1, d2, d3] }
  | _ => none }
def fnExactRefusedDeedRow : OpenClaim := { program := "ytampglcgipefnaagreat", sum := "40cdbffc6309e4323b6e8acae34175ebac08e838265bf9f603f986500c3d610c", func := "loop.example/g01102/laws.FnExactRefusedDeed", spec := "fnExactRefusedDeed", unfollowed := true, recurses := true, apart := false }
def FnExactRefusedDeedSaid : Prop := fnExactRefusedDeedRow.holds Tryz.pinned (OpenSpec.ofChange fnExactRefusedDeedSpec)

/-- ITS FALSE NEIGHBOUR: 'it returns false'. Refute it at one input. -/
def fnExactRefusedDeedWrong : ChangeSpec := { name := "fnExactRefusedDeed", fn := fun _ => fun
  | [d1, d2, d3] => { results := [.lit (.bool false)], args := [d1, d2, d3] }
  | _ => none }
def FnExactRefusedDeedWrongFalsely : Prop := fnExactRefusedDeedRow.holds Tryz.pinned (OpenSpec.ofChange fnExactRefusedDeedWrong)

/-- 'laws.FnExactLineAfter': WHATEVER THE INPUT: true; the input reads as it did. -/
def fnExactLineAfterSpec : ChangeSpec := { name := "fnExactLineAfter", fn := fun _ => fun
  | [d1, d2, d3] => { results := [.lit (.bool true)], args := [d1, d2, d3] }
  | _ => none }
def fnExactLineAfterRow : OpenClaim := { program := "ytampglcgipefnaagreat", sum := "40cdbffc6309e4323b6e8acae34175ebac08e838265bf9f603f986500c3d610c", func := "loop.example/g01102/laws.FnExactLineAfter", spec := "fnExactLineAfter", unfollowed := true, recurses := true, apart := false }
def FnExactLineAfterSaid : Prop := fnExactLineAfterRow.holds Tryz.pinned (OpenSpec.ofChange fnExactLineAfterSpec)

/-- ITS FALSE NEIGHBOUR: 'it returns false'. Refute it at one input. -/
def fnExactLineAfterWrong : ChangeSpec := { name := "fnExactLineAfter", fn := fun _ => fun
  | [d1, d2, d3] => { results := [.lit (.bool false)], args := [d1, d2, d3] }
  | _ => none }
def FnExactLineAfterWrongFalsely : Prop := fnExactLineAfterRow.holds Tryz.pinned (OpenSpec.ofChange fnExactLineAfterWrong)

/-- 'laws.FnExactToldAfter': WHATEVER THE INPUT: true; the input reads as it did. -/
def fnExactToldAfterSpec : ChangeSpec := { name := "fnExactToldAfter", fn := fun _ => fun
  | [d1, d2, d3] => { results := [.lit (.bool true)], args := [d1, d2, d3] }
  | _ => none }
def fnExactToldAfterRow : OpenClaim := { program := "ytampglcgipefnaagreat", sum := "40cdbffc6309e4323b6e8acae34175ebac08e838265bf9f603f986500c3d610c", func := "loop.example/g01102/laws.FnExactToldAfter", spec := "fnExactToldAfter", unfollowed := true, recurses := true, apart := false }
def FnExactToldAfterSaid : Prop := fnExactToldAfterRow.holds Tryz.pinned (OpenSpec.ofChange fnExactToldAfterSpec)

/-- ITS FALSE NEIGHBOUR: 'it returns false'. Refute it at one input. -/
def fnExactToldAfterWrong : ChangeSpec := { name := "fnExactToldAfter", fn := fun _ => fun
  | [d1, d2, d3] => { results := [.lit (.bool false)], args := [d1, d2, d3] }
  | _ => none }
def FnExactToldAfterWrongFalsely : Prop := fnExactToldAfterRow.holds Tryz.pinned (OpenSpec.ofChange fnExactToldAfterWrong)

/-- 'laws.FnExactHomeDeeds': WHATEVER THE INPUT: true; the input reads as it did. -/
def fnExactHomeDeedsSpec : ChangeSpec := { name := "fnExactHomeDeeds", fn := fun _ => fun
  | [d1, d2, d3] => { results := [.lit (.bool true)], args := [d1, d2, d3] }
  | _ => none }
def fnExactHomeDeedsRow : OpenClaim := { program := "ytampglcgipefnaagreat", sum := "40cdbffc6309e4323b6e8acae34175ebac08e838265bf9f603f986500c3d610c", func := "loop.example/g01102/laws.FnExactHomeDeeds", spec := "fnExactHomeDeeds", unfollowed := true, recurses := true, apart := false }
def FnExactHomeDeedsSaid : Prop := fnExactHomeDeedsRow.holds Tryz.pinned (OpenSpec.ofChange fnExactHomeDeedsSpec)

/-- ITS FALSE NEIGHBOUR: 'it returns false'. Refute it at one input. -/
def fnExactHomeDeedsWrong : ChangeSpec := { name := "fnExactHomeDeeds", fn := fun _ => fun
  | [d1, d2, d3] => { results := [.lit (.bool false)], args := [d1, d2, d3] }
  | _ => none }
def FnExactHomeDeedsWrongFalsely : Prop := fnExactHomeDeedsRow.holds Tryz.pinned (OpenSpec.ofChange fnExactHomeDeedsWrong)

/-- 'laws.FnTold': WHATEVER THE INPUT: true; the input reads as it did. -/
def fnToldSpec : ChangeSpec := { name := "fnTold", fn := fun _ => fun
  | [d1, d2] => { results := [.lit (.bool true)], args := [d1, d2] }
  | _ => none }
def fnToldRow : OpenClaim := { program := "ytampglcgipefnaagreat", sum := "40cdbffc6309e4323b6e8acae34175ebac08e838265bf9f603f986500c3d610c", func := "loop.example/g01102/laws.FnTold", spec := "fnTold", unfollowed := true, recurses := true, apart := false }
def FnToldSaid : Prop := fnToldRow.holds Tryz.pinned (OpenSpec.ofChange fnToldSpec)

/-- ITS FALSE NEIGHBOUR: 'it returns false'. Refute it at one input. -/
def fnToldWrong : ChangeSpec := { name := "fnTold", fn := fun _ => fun
  | [d1, d2] => { results := [.lit (.bool false)], args := [d1, d2] }
  | _ => none }
def FnToldWrongFalsely : Prop := fnToldRow.holds Tryz.pinned (OpenSpec.ofChange fnToldWrong)

/-- 'laws.FnHome': WHATEVER THE INPUT: true; the input reads as it did. -/
def fnHomeSpec : ChangeSpec := { name := "fnHome", fn := fun _ => fun
  | [d1, d2] => { results := [.lit (.bool true)], args := [d1, d2] }
  | _ => none }
def fnHomeRow : OpenClaim := { program := "ytampglcgipefnaagreat", sum := "40cdbffc6309e4323b6e8acae34175ebac08e838265bf9f603f986500c3d610c", func := "loop.example/g01102/laws.FnHome", spec := "fnHome", unfollowed := true, recurses := true, apart := false }
def FnHomeSaid : Prop := fnHomeRow.holds Tryz.pinned (OpenSpec.ofChange fnHomeSpec)

/-- ITS FALSE NEIGHBOUR: 'it returns false'. Refute it at one input. -/
def fnHomeWrong : ChangeSpec := { name := "fnHome", fn := fun _ => fun
  | [d1, d2] => { results := [.lit (.bool false)], args := [d1, d2] }
  | _ => none }
def FnHomeWrongFalsely : Prop := fnHomeRow.holds Tryz.pinned (OpenSpec.ofChange fnHomeWrong)

/- THE SECOND FORM. 'bulk': how many values and letters a reading holds, each counted each time it is reached (what is shared counts as often as it is met; a slice's spare places count too). A statement '..UptoSaid' is the law's where the arguments, and the package variables that the reading takes, are together of bulk at most 1048576: NARROWER than '..Said'. Prove '..Said' where nothing that the law and all that it calls make is longer than what came in: it says more and counts as full. Else prove '..UptoSaid'. A law counts once. -/
mutual
def uptoBulk {H : Type} : DataW H → Nat
  | .lit (.string bytes) => bytes.length + 1
  | .lit _ => 1
  | .nil => 1
  | .ptr d => uptoBulk d + 1
  | .slice elems spare => uptoBulkAll elems + uptoBulkAll spare + 1
  | .agg parts => uptoBulkAll parts + 1
  | .iface _ d => uptoBulk d + 1
  | .map entries => uptoBulkEntries entries + 1
  | .held _ => 1
def uptoBulkAll {H : Type} : List (DataW H) → Nat
  | [] => 0
  | d :: r => uptoBulk d + uptoBulkAll r
def uptoBulkEntries {H : Type} : List (Lit × DataW H) → Nat
  | [] => 0
  | x :: r => uptoBulkEntry x + uptoBulkEntries r
def uptoBulkEntry {H : Type} : Lit × DataW H → Nat
  | (.string bytes, d) => bytes.length + uptoBulk d + 1
  | (_, d) => uptoBulk d + 1
 end
def uptoSmall : (H : Type) → List (DataW H) → Bool := fun _ ds => decide (uptoBulkAll ds ≤ 1048576)
def OpenSpec.upto (s : _root_.Go.ChangeSpec) : _root_.Go.OpenSpec := { _root_.Go.OpenSpec.ofChange s with cond := some uptoSmall }

/-- 'laws.FnExactRefusedDeed', WHERE WHAT IT READS IS OF BULK AT MOST 1048576: true; the input reads as it did. -/
def fnExactRefusedDeedUptoRow : OpenClaim := { program := "ytampglcgipefnaagreat", sum := "40cdbffc6309e4323b6e8acae34175ebac08e838265bf9f603f986500c3d610c", func := "loop.example/g01102/laws.FnExactRefusedDeed", spec := "fnExactRefusedDeed", unfollowed := true, recurses := true, apart := false, narrowed := true }
def FnExactRefusedDeedUptoSaid : Prop := fnExactRefusedDeedUptoRow.holds Tryz.pinned (OpenSpec.upto fnExactRefusedDeedSpec)

/-- 'laws.FnExactLineAfter', WHERE WHAT IT READS IS OF BULK AT MOST 1048576: true; the input reads as it did. -/
def fnExactLineAfterUptoRow : OpenClaim := { program := "ytampglcgipefnaagreat", sum := "40cdbffc6309e4323b6e8acae34175ebac08e838265bf9f603f986500c3d610c", func := "loop.example/g01102/laws.FnExactLineAfter", spec := "fnExactLineAfter", unfollowed := true, recurses := true, apart := false, narrowed := true }
def FnExactLineAfterUptoSaid : Prop := fnExactLineAfterUptoRow.holds Tryz.pinned (OpenSpec.upto fnExactLineAfterSpec)

/-- 'laws.FnExactToldAfter', WHERE WHAT IT READS IS OF BULK AT MOST 1048576: true; the input reads as it did. -/
def fnExactToldAfterUptoRow : OpenClaim := { program := "ytampglcgipefnaagreat", sum := "40cdbffc6309e4323b6e8acae34175ebac08e838265bf9f603f986500c3d610c", func := "loop.example/g01102/laws.FnExactToldAfter", spec := "fnExactToldAfter", unfollowed := true, recurses := true, apart := false, narrowed := true }
def FnExactToldAfterUptoSaid : Prop := fnExactToldAfterUptoRow.holds Tryz.pinned (OpenSpec.upto fnExactToldAfterSpec)

/-- 'laws.FnExactHomeDeeds', WHERE WHAT IT READS IS OF BULK AT MOST 1048576: true; the input reads as it did. -/
def fnExactHomeDeedsUptoRow : OpenClaim := { program := "ytampglcgipefnaagreat", sum := "40cdbffc6309e4323b6e8acae34175ebac08e838265bf9f603f986500c3d610c", func := "loop.example/g01102/laws.FnExactHomeDeeds", spec := "fnExactHomeDeeds", unfollowed := true, recurses := true, apart := false, narrowed := true }
def FnExactHomeDeedsUptoSaid : Prop := fnExactHomeDeedsUptoRow.holds Tryz.pinned (OpenSpec.upto fnExactHomeDeedsSpec)

/-- 'laws.FnTold', WHERE WHAT IT READS IS OF BULK AT MOST 1048576: true; the input reads as it did. -/
def fnToldUptoRow : OpenClaim := { program := "ytampglcgipefnaagreat", sum := "40cdbffc6309e4323b6e8acae34175ebac08e838265bf9f603f986500c3d610c", func := "loop.example/g01102/laws.FnTold", spec := "fnTold", unfollowed := true, recurses := true, apart := false, narrowed := true }
def FnToldUptoSaid : Prop := fnToldUptoRow.holds Tryz.pinned (OpenSpec.upto fnToldSpec)

/-- 'laws.FnHome', WHERE WHAT IT READS IS OF BULK AT MOST 1048576: true; the input reads as it did. -/
def fnHomeUptoRow : OpenClaim := { program := "ytampglcgipefnaagreat", sum := "40cdbffc6309e4323b6e8acae34175ebac08e838265bf9f603f986500c3d610c", func := "loop.example/g01102/laws.FnHome", spec := "fnHome", unfollowed := true, recurses := true, apart := false, narrowed := true }
def FnHomeUptoSaid : Prop := fnHomeUptoRow.holds Tryz.pinned (OpenSpec.upto fnHomeSpec)

end Rows
end Go.Proofs.YtampglcgipefnaaGreat
