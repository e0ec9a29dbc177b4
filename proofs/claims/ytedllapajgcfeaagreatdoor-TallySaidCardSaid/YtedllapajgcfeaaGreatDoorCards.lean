/-
  DERIVED. GIVEN WITH THE SEED: THE CARDS: each row of YtedllapajgcfeaaGreatDoorRows.lean that lists a variable, with what it lists TIED to the program's text (the seventh form; the later family's looks); each row that meets fmt, with fmt's text TOLD by the authors' own Lean function (tested against real Go, not proved from fmt's source: count such statements apart). THE CARD IS WHAT COUNTS. Prove the row's statement (the work); the ties are given (YtedllapajgcfeaaGreatDoorTie.lean); close each card by the builder's one call (the guide's Derived/Test/ToyasCard.lean, 'card_holds'). Laid BY PROGRAM, IN A SANDBOX (cutbox-door.mjs). By AI agents, Wed Nov 11 2026. No macro, syntax, notation, axiom, sorry.
-/
import Derived.Test.YtedllapajgcfeaaGreatDoorRows
import GoSem.ClaimSeven
namespace Go.Proofs.YtedllapajgcfeaaGreatDoor
namespace Rows

/-- THE TIED CARD OF 'shibbolethlaw05.TallySaid'. -/
def tallySaidCard : Claim7 := { stood := { row := tallySaidRow, standIns := [], harness := (true, "289d088d72f3694e59974319f25923ac3ec90ceb2011befcc3704176eb7d7cd4"), looks := true }, kinds := [], alts := [], laidByText := true, laidKinds := [.data, .data, .widerDeep, .widerDeep, .data, .data, .data, .data, .data, .sentinel, .sentinel, .pinned, .pinned], laidTests := true, laidLooks := .later }
def TallySaidCardSaid : Prop := Claim7.holds Tryz.pinned (.plain (OpenSpec.ofChange tallySaidSpec)) tallySaidCard

/-- THE TIED CARD OF 'shibbolethlaw05.TallyTells'. -/
def tallyTellsCard : Claim7 := { stood := { row := tallyTellsRow, standIns := [], harness := (true, "289d088d72f3694e59974319f25923ac3ec90ceb2011befcc3704176eb7d7cd4"), looks := true }, kinds := [], alts := [], laidByText := true, laidKinds := [.data, .data, .data, .data, .pinned, .pinned], laidTests := true, laidLooks := .later }
def TallyTellsCardSaid : Prop := Claim7.holds Tryz.pinned (.plain (OpenSpec.ofChange tallyTellsSpec)) tallyTellsCard

/-- THE SECOND FORM's CARD OF 'shibbolethlaw05.TallySaid'. -/
def tallySaidUptoCard : Claim7 := { stood := { row := tallySaidUptoRow, standIns := [], harness := (true, "289d088d72f3694e59974319f25923ac3ec90ceb2011befcc3704176eb7d7cd4"), looks := true }, kinds := [], alts := [], laidByText := true, laidKinds := [.data, .data, .widerDeep, .widerDeep, .data, .data, .data, .data, .data, .sentinel, .sentinel, .pinned, .pinned], laidTests := true, laidLooks := .later }
def TallySaidUptoCardSaid : Prop := Claim7.holds Tryz.pinned (.plain (OpenSpec.upto tallySaidSpec)) tallySaidUptoCard

/-- THE SECOND FORM's CARD OF 'shibbolethlaw05.TallyTells'. -/
def tallyTellsUptoCard : Claim7 := { stood := { row := tallyTellsUptoRow, standIns := [], harness := (true, "289d088d72f3694e59974319f25923ac3ec90ceb2011befcc3704176eb7d7cd4"), looks := true }, kinds := [], alts := [], laidByText := true, laidKinds := [.data, .data, .data, .data, .pinned, .pinned], laidTests := true, laidLooks := .later }
def TallyTellsUptoCardSaid : Prop := Claim7.holds Tryz.pinned (.plain (OpenSpec.upto tallyTellsSpec)) tallyTellsUptoCard
end Rows
end Go.Proofs.YtedllapajgcfeaaGreatDoor
