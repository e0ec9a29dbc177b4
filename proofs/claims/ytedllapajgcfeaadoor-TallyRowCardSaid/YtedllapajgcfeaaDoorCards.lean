/-
  DERIVED. GIVEN WITH THE SEED: THE CARDS: each row of YtedllapajgcfeaaDoorRows.lean that lists a variable, with what it lists TIED to the program's text (the seventh form; the later family's looks); each row that meets fmt, with fmt's text TOLD by the authors' own Lean function (tested against real Go, not proved from fmt's source: count such statements apart). THE CARD IS WHAT COUNTS. Prove the row's statement (the work); the ties are given (YtedllapajgcfeaaDoorTie.lean); close each card by the builder's one call (the guide's Derived/Test/ToyasCard.lean, 'card_holds'). Laid BY PROGRAM, IN A SANDBOX (cutbox-door.mjs). By AI agents, Wed Nov 11 2026. No macro, syntax, notation, axiom, sorry.
-/
import Derived.Test.YtedllapajgcfeaaDoorRows
import GoSem.ClaimSeven
namespace Go.Proofs.YtedllapajgcfeaaDoor
namespace Rows

/-- THE TIED CARD OF 'shibbolethlaw05.TallyRow'. -/
def tallyRowCard : Claim7 := { stood := { row := tallyRowRow, standIns := [], harness := (true, "664387ab6e817a135981bf5a1db4dd559782b8ec5168bf3a579c01beead58467"), looks := false }, kinds := [], alts := [], laidByText := true, laidKinds := [.data, .data, .data, .data, .pinned, .pinned], laidTests := true, laidLooks := .later }
def TallyRowCardSaid : Prop := Claim7.holds Tryd.pinned (.plain (OpenSpec.ofChange tallyRowSpec)) tallyRowCard

/-- THE TIED CARD OF 'shibbolethlaw05.TallyOrder'. -/
def tallyOrderCard : Claim7 := { stood := { row := tallyOrderRow, standIns := [], harness := (true, "664387ab6e817a135981bf5a1db4dd559782b8ec5168bf3a579c01beead58467"), looks := false }, kinds := [], alts := [], laidByText := true, laidKinds := [.data, .data, .data, .data, .pinned, .pinned], laidTests := true, laidLooks := .later }
def TallyOrderCardSaid : Prop := Claim7.holds Tryd.pinned (.plain (OpenSpec.ofChange tallyOrderSpec)) tallyOrderCard

/-- THE TIED CARD OF 'shibbolethlaw05.TallyTotal'. -/
def tallyTotalCard : Claim7 := { stood := { row := tallyTotalRow, standIns := [], harness := (true, "664387ab6e817a135981bf5a1db4dd559782b8ec5168bf3a579c01beead58467"), looks := false }, kinds := [], alts := [], laidByText := true, laidKinds := [.data, .data, .data, .data, .pinned, .pinned], laidTests := true, laidLooks := .later }
def TallyTotalCardSaid : Prop := Claim7.holds Tryd.pinned (.plain (OpenSpec.ofChange tallyTotalSpec)) tallyTotalCard

/-- THE TIED CARD OF 'shibbolethlaw05.TallyKnown'. -/
def tallyKnownCard : Claim7 := { stood := { row := tallyKnownRow, standIns := [], harness := (true, "664387ab6e817a135981bf5a1db4dd559782b8ec5168bf3a579c01beead58467"), looks := false }, kinds := [], alts := [], laidByText := true, laidKinds := [.data, .data, .data, .data, .pinned, .pinned], laidTests := true, laidLooks := .later }
def TallyKnownCardSaid : Prop := Claim7.holds Tryd.pinned (.plain (OpenSpec.ofChange tallyKnownSpec)) tallyKnownCard

/-- THE SECOND FORM's CARD OF 'shibbolethlaw05.TallyRow'. -/
def tallyRowUptoCard : Claim7 := { stood := { row := tallyRowUptoRow, standIns := [], harness := (true, "664387ab6e817a135981bf5a1db4dd559782b8ec5168bf3a579c01beead58467"), looks := false }, kinds := [], alts := [], laidByText := true, laidKinds := [.data, .data, .data, .data, .pinned, .pinned], laidTests := true, laidLooks := .later }
def TallyRowUptoCardSaid : Prop := Claim7.holds Tryd.pinned (.plain (OpenSpec.upto tallyRowSpec)) tallyRowUptoCard

/-- THE SECOND FORM's CARD OF 'shibbolethlaw05.TallyOrder'. -/
def tallyOrderUptoCard : Claim7 := { stood := { row := tallyOrderUptoRow, standIns := [], harness := (true, "664387ab6e817a135981bf5a1db4dd559782b8ec5168bf3a579c01beead58467"), looks := false }, kinds := [], alts := [], laidByText := true, laidKinds := [.data, .data, .data, .data, .pinned, .pinned], laidTests := true, laidLooks := .later }
def TallyOrderUptoCardSaid : Prop := Claim7.holds Tryd.pinned (.plain (OpenSpec.upto tallyOrderSpec)) tallyOrderUptoCard

/-- THE SECOND FORM's CARD OF 'shibbolethlaw05.TallyTotal'. -/
def tallyTotalUptoCard : Claim7 := { stood := { row := tallyTotalUptoRow, standIns := [], harness := (true, "664387ab6e817a135981bf5a1db4dd559782b8ec5168bf3a579c01beead58467"), looks := false }, kinds := [], alts := [], laidByText := true, laidKinds := [.data, .data, .data, .data, .pinned, .pinned], laidTests := true, laidLooks := .later }
def TallyTotalUptoCardSaid : Prop := Claim7.holds Tryd.pinned (.plain (OpenSpec.upto tallyTotalSpec)) tallyTotalUptoCard

/-- THE SECOND FORM's CARD OF 'shibbolethlaw05.TallyKnown'. -/
def tallyKnownUptoCard : Claim7 := { stood := { row := tallyKnownUptoRow, standIns := [], harness := (true, "664387ab6e817a135981bf5a1db4dd559782b8ec5168bf3a579c01beead58467"), looks := false }, kinds := [], alts := [], laidByText := true, laidKinds := [.data, .data, .data, .data, .pinned, .pinned], laidTests := true, laidLooks := .later }
def TallyKnownUptoCardSaid : Prop := Claim7.holds Tryd.pinned (.plain (OpenSpec.upto tallyKnownSpec)) tallyKnownUptoCard
end Rows
end Go.Proofs.YtedllapajgcfeaaDoor
