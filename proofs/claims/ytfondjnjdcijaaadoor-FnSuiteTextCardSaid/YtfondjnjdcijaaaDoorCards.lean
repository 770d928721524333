/-
  DERIVED. GIVEN WITH THE SEED: THE CARDS: each row of YtfondjnjdcijaaaDoorRows.lean that lists a variable, with what it lists TIED to the program's text (the seventh form; the later family's looks); each row that meets fmt, with fmt's text TOLD by the authors' own Lean function (tested against real Go, not proved from fmt's source: count such statements apart). THE CARD IS WHAT COUNTS. Prove the row's statement (the work); the ties are given (YtfondjnjdcijaaaDoorTie.lean); close each card by the builder's one call (the guide's Derived/Test/ToyasCard.lean, 'card_holds'). Laid BY PROGRAM, IN A SANDBOX (cutbox-door.mjs). By AI agents, Wed Nov 11 2026. No macro, syntax, notation, axiom, sorry.
-/
import Derived.Test.YtfondjnjdcijaaaDoorRows
import GoSem.ClaimSeven
namespace Go.Proofs.YtfondjnjdcijaaaDoor
namespace Rows

/-- THE TIED CARD OF 'laws.FnExactReadSuite'. -/
def fnExactReadSuiteCard : Claim7 := { stood := { row := fnExactReadSuiteRow, standIns := [], harness := (true, "77048a1568bb7505df3cbaebb43f9c9b325a88e533b405ee1872fd099e28ae26"), looks := false }, kinds := [], alts := [], laidByText := true, laidKinds := [.data, .pinned], laidTests := true, laidLooks := .later }
def FnExactReadSuiteCardSaid : Prop := Claim7.holds Tryd.pinned (.plain (OpenSpec.ofChange fnExactReadSuiteSpec)) fnExactReadSuiteCard

/-- THE TIED CARD OF 'laws.FnSuiteText'. -/
def fnSuiteTextCard : Claim7 := { stood := { row := fnSuiteTextRow, standIns := [], harness := (true, "77048a1568bb7505df3cbaebb43f9c9b325a88e533b405ee1872fd099e28ae26"), looks := false }, kinds := [], alts := [], laidByText := true, laidKinds := [.data, .pinned], laidTests := true, laidLooks := .later }
def FnSuiteTextCardSaid : Prop := Claim7.holds Tryd.pinned (.plain (OpenSpec.ofChange fnSuiteTextSpec)) fnSuiteTextCard

/-- THE TIED CARD OF 'laws.FnExactDeedText'. -/
def fnExactDeedTextCard : Claim7 := { stood := { row := fnExactDeedTextRow, standIns := [], harness := (true, "77048a1568bb7505df3cbaebb43f9c9b325a88e533b405ee1872fd099e28ae26"), looks := false }, kinds := [], alts := [], laidByText := true, laidKinds := [.data, .data, .data], laidTests := true, laidLooks := .later }
def FnExactDeedTextCardSaid : Prop := Claim7.holds Tryd.pinned (.plain (OpenSpec.ofChange fnExactDeedTextSpec)) fnExactDeedTextCard

/-- THE SECOND FORM's CARD OF 'laws.FnExactReadSuite'. -/
def fnExactReadSuiteUptoCard : Claim7 := { stood := { row := fnExactReadSuiteUptoRow, standIns := [], harness := (true, "77048a1568bb7505df3cbaebb43f9c9b325a88e533b405ee1872fd099e28ae26"), looks := false }, kinds := [], alts := [], laidByText := true, laidKinds := [.data, .pinned], laidTests := true, laidLooks := .later }
def FnExactReadSuiteUptoCardSaid : Prop := Claim7.holds Tryd.pinned (.plain (OpenSpec.upto fnExactReadSuiteSpec)) fnExactReadSuiteUptoCard

/-- THE SECOND FORM's CARD OF 'laws.FnSuiteText'. -/
def fnSuiteTextUptoCard : Claim7 := { stood := { row := fnSuiteTextUptoRow, standIns := [], harness := (true, "77048a1568bb7505df3cbaebb43f9c9b325a88e533b405ee1872fd099e28ae26"), looks := false }, kinds := [], alts := [], laidByText := true, laidKinds := [.data, .pinned], laidTests := true, laidLooks := .later }
def FnSuiteTextUptoCardSaid : Prop := Claim7.holds Tryd.pinned (.plain (OpenSpec.upto fnSuiteTextSpec)) fnSuiteTextUptoCard

/-- THE SECOND FORM's CARD OF 'laws.FnExactDeedText'. -/
def fnExactDeedTextUptoCard : Claim7 := { stood := { row := fnExactDeedTextUptoRow, standIns := [], harness := (true, "77048a1568bb7505df3cbaebb43f9c9b325a88e533b405ee1872fd099e28ae26"), looks := false }, kinds := [], alts := [], laidByText := true, laidKinds := [.data, .data, .data], laidTests := true, laidLooks := .later }
def FnExactDeedTextUptoCardSaid : Prop := Claim7.holds Tryd.pinned (.plain (OpenSpec.upto fnExactDeedTextSpec)) fnExactDeedTextUptoCard
end Rows
end Go.Proofs.YtfondjnjdcijaaaDoor
