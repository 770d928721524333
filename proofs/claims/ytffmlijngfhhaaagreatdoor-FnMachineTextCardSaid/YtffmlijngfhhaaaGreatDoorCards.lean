/-
  DERIVED. GIVEN WITH THE SEED: THE CARDS: each row of YtffmlijngfhhaaaGreatDoorRows.lean that lists a variable, with what it lists TIED to the program's text (the seventh form; the later family's looks); each row that meets fmt, with fmt's text TOLD by the authors' own Lean function (tested against real Go, not proved from fmt's source: count such statements apart). THE CARD IS WHAT COUNTS. Prove the row's statement (the work); the ties are given (YtffmlijngfhhaaaGreatDoorTie.lean); close each card by the builder's one call (the guide's Derived/Test/ToyasCard.lean, 'card_holds'). Laid BY PROGRAM, IN A SANDBOX (cutbox-door.mjs). By AI agents, Wed Nov 11 2026. No macro, syntax, notation, axiom, sorry.
-/
import Derived.Test.YtffmlijngfhhaaaGreatDoorRows
import GoSem.ClaimSeven
namespace Go.Proofs.YtffmlijngfhhaaaGreatDoor
namespace Rows

/-- THE TIED CARD OF 'laws.FnDeeds'. -/
def fnDeedsCard : Claim7 := { stood := { row := fnDeedsRow, standIns := [], harness := (true, "0e76518feab3031fd30cbfe9643533af8852a3e676717f88aa749e349a5ae1ea"), looks := true }, kinds := [], alts := [], laidByText := true, laidKinds := [.data, .data, .data, .sentinel, .sentinel], laidTests := true, laidLooks := .later }
def FnDeedsCardSaid : Prop := Claim7.holds Tryz.pinned (.plain (OpenSpec.ofChange fnDeedsSpec)) fnDeedsCard

/-- THE TIED CARD OF 'laws.FnMachineText'. -/
def fnMachineTextCard : Claim7 := { stood := { row := fnMachineTextRow, standIns := [], harness := (true, "0e76518feab3031fd30cbfe9643533af8852a3e676717f88aa749e349a5ae1ea"), looks := true }, kinds := [], alts := [], laidByText := true, laidKinds := [.data, .data, .data, .data, .sentinel, .sentinel, .pinned], laidTests := true, laidLooks := .later }
def FnMachineTextCardSaid : Prop := Claim7.holds Tryz.pinned (.plain (OpenSpec.ofChange fnMachineTextSpec)) fnMachineTextCard

/-- THE TIED CARD OF 'laws.FnExactRunScript'. -/
def fnExactRunScriptCard : Claim7 := { stood := { row := fnExactRunScriptRow, standIns := [], harness := (true, "0e76518feab3031fd30cbfe9643533af8852a3e676717f88aa749e349a5ae1ea"), looks := true }, kinds := [], alts := [], laidByText := true, laidKinds := [.data, .data, .data, .data, .sentinel, .sentinel, .pinned], laidTests := true, laidLooks := .later }
def FnExactRunScriptCardSaid : Prop := Claim7.holds Tryz.pinned (.plain (OpenSpec.ofChange fnExactRunScriptSpec)) fnExactRunScriptCard

/-- THE TIED CARD OF 'laws.FnLineScript'. -/
def fnLineScriptCard : Claim7 := { stood := { row := fnLineScriptRow, standIns := [], harness := (true, "0e76518feab3031fd30cbfe9643533af8852a3e676717f88aa749e349a5ae1ea"), looks := true }, kinds := [], alts := [], laidByText := true, laidKinds := [.data, .data, .data, .data, .sentinel, .sentinel, .pinned], laidTests := true, laidLooks := .later }
def FnLineScriptCardSaid : Prop := Claim7.holds Tryz.pinned (.plain (OpenSpec.ofChange fnLineScriptSpec)) fnLineScriptCard

/-- THE SECOND FORM's CARD OF 'laws.FnDeeds'. -/
def fnDeedsUptoCard : Claim7 := { stood := { row := fnDeedsUptoRow, standIns := [], harness := (true, "0e76518feab3031fd30cbfe9643533af8852a3e676717f88aa749e349a5ae1ea"), looks := true }, kinds := [], alts := [], laidByText := true, laidKinds := [.data, .data, .data, .sentinel, .sentinel], laidTests := true, laidLooks := .later }
def FnDeedsUptoCardSaid : Prop := Claim7.holds Tryz.pinned (.plain (OpenSpec.upto fnDeedsSpec)) fnDeedsUptoCard

/-- THE SECOND FORM's CARD OF 'laws.FnMachineText'. -/
def fnMachineTextUptoCard : Claim7 := { stood := { row := fnMachineTextUptoRow, standIns := [], harness := (true, "0e76518feab3031fd30cbfe9643533af8852a3e676717f88aa749e349a5ae1ea"), looks := true }, kinds := [], alts := [], laidByText := true, laidKinds := [.data, .data, .data, .data, .sentinel, .sentinel, .pinned], laidTests := true, laidLooks := .later }
def FnMachineTextUptoCardSaid : Prop := Claim7.holds Tryz.pinned (.plain (OpenSpec.upto fnMachineTextSpec)) fnMachineTextUptoCard

/-- THE SECOND FORM's CARD OF 'laws.FnExactRunScript'. -/
def fnExactRunScriptUptoCard : Claim7 := { stood := { row := fnExactRunScriptUptoRow, standIns := [], harness := (true, "0e76518feab3031fd30cbfe9643533af8852a3e676717f88aa749e349a5ae1ea"), looks := true }, kinds := [], alts := [], laidByText := true, laidKinds := [.data, .data, .data, .data, .sentinel, .sentinel, .pinned], laidTests := true, laidLooks := .later }
def FnExactRunScriptUptoCardSaid : Prop := Claim7.holds Tryz.pinned (.plain (OpenSpec.upto fnExactRunScriptSpec)) fnExactRunScriptUptoCard

/-- THE SECOND FORM's CARD OF 'laws.FnLineScript'. -/
def fnLineScriptUptoCard : Claim7 := { stood := { row := fnLineScriptUptoRow, standIns := [], harness := (true, "0e76518feab3031fd30cbfe9643533af8852a3e676717f88aa749e349a5ae1ea"), looks := true }, kinds := [], alts := [], laidByText := true, laidKinds := [.data, .data, .data, .data, .sentinel, .sentinel, .pinned], laidTests := true, laidLooks := .later }
def FnLineScriptUptoCardSaid : Prop := Claim7.holds Tryz.pinned (.plain (OpenSpec.upto fnLineScriptSpec)) fnLineScriptUptoCard
end Rows
end Go.Proofs.YtffmlijngfhhaaaGreatDoor
