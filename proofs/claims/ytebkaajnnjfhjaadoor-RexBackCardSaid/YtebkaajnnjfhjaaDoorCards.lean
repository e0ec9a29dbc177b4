/-
  DERIVED. GIVEN WITH THE SEED: THE CARDS: each row of YtebkaajnnjfhjaaDoorRows.lean that lists a variable, with what it lists TIED to the program's text (the seventh form; the later family's looks); each row that meets fmt, with fmt's text TOLD by the authors' own Lean function (tested against real Go, not proved from fmt's source: count such statements apart). THE CARD IS WHAT COUNTS. Prove the row's statement (the work); the ties are given (YtebkaajnnjfhjaaDoorTie.lean); close each card by the builder's one call (the guide's Derived/Test/ToyasCard.lean, 'card_holds'). Laid BY PROGRAM, IN A SANDBOX (cutbox-door.mjs). By AI agents, Wed Nov 11 2026. No macro, syntax, notation, axiom, sorry.
-/
import Derived.Test.YtebkaajnnjfhjaaDoorRows
import GoSem.ClaimSeven
namespace Go.Proofs.YtebkaajnnjfhjaaDoor
namespace Rows

/-- THE TIED CARD OF 'shibbolethlaw06.TreeKnown'. -/
def treeKnownCard : Claim7 := { stood := { row := treeKnownRow, standIns := [], harness := (true, "c632e652607c3a0a08f074f387c2bf0b5b5eb084eac7f2a4d0275600633e2c40"), looks := true }, kinds := [], alts := [], laidByText := true, laidKinds := [.data, .data, .data], laidTests := true, laidLooks := .later }
def TreeKnownCardSaid : Prop := Claim7.holds Tryd.pinned (.plain (OpenSpec.ofChange treeKnownSpec)) treeKnownCard

/-- THE TIED CARD OF 'shibbolethlaw06.TreeTells'. -/
def treeTellsCard : Claim7 := { stood := { row := treeTellsRow, standIns := [], harness := (true, "c632e652607c3a0a08f074f387c2bf0b5b5eb084eac7f2a4d0275600633e2c40"), looks := true }, kinds := [], alts := [], laidByText := true, laidKinds := [.data, .data, .data], laidTests := true, laidLooks := .later }
def TreeTellsCardSaid : Prop := Claim7.holds Tryd.pinned (.plain (OpenSpec.ofChange treeTellsSpec)) treeTellsCard

/-- THE TIED CARD OF 'shibbolethlaw06.TreeTwo'. -/
def treeTwoCard : Claim7 := { stood := { row := treeTwoRow, standIns := [], harness := (true, "c632e652607c3a0a08f074f387c2bf0b5b5eb084eac7f2a4d0275600633e2c40"), looks := true }, kinds := [], alts := [], laidByText := true, laidKinds := [.data, .data, .data], laidTests := true, laidLooks := .later }
def TreeTwoCardSaid : Prop := Claim7.holds Tryd.pinned (.plain (OpenSpec.ofChange treeTwoSpec)) treeTwoCard

/-- THE TIED CARD OF 'shibbolethlaw06.TreePlain'. -/
def treePlainCard : Claim7 := { stood := { row := treePlainRow, standIns := [], harness := (true, "c632e652607c3a0a08f074f387c2bf0b5b5eb084eac7f2a4d0275600633e2c40"), looks := true }, kinds := [], alts := [], laidByText := true, laidKinds := [.data, .data, .data], laidTests := true, laidLooks := .later }
def TreePlainCardSaid : Prop := Claim7.holds Tryd.pinned (.plain (OpenSpec.ofChange treePlainSpec)) treePlainCard

/-- THE TIED CARD OF 'shibbolethlaw07.RexBack'. -/
def rexBackCard : Claim7 := { stood := { row := rexBackRow, standIns := [], harness := (true, "c632e652607c3a0a08f074f387c2bf0b5b5eb084eac7f2a4d0275600633e2c40"), looks := true }, kinds := [], alts := [], laidByText := true, laidKinds := [.data, .data, .data], laidTests := true, laidLooks := .later }
def RexBackCardSaid : Prop := Claim7.holds Tryd.pinned (.plain (OpenSpec.ofChange rexBackSpec)) rexBackCard

/-- THE SECOND FORM's CARD OF 'shibbolethlaw06.TreeKnown'. -/
def treeKnownUptoCard : Claim7 := { stood := { row := treeKnownUptoRow, standIns := [], harness := (true, "c632e652607c3a0a08f074f387c2bf0b5b5eb084eac7f2a4d0275600633e2c40"), looks := true }, kinds := [], alts := [], laidByText := true, laidKinds := [.data, .data, .data], laidTests := true, laidLooks := .later }
def TreeKnownUptoCardSaid : Prop := Claim7.holds Tryd.pinned (.plain (OpenSpec.upto treeKnownSpec)) treeKnownUptoCard

/-- THE SECOND FORM's CARD OF 'shibbolethlaw06.TreeTells'. -/
def treeTellsUptoCard : Claim7 := { stood := { row := treeTellsUptoRow, standIns := [], harness := (true, "c632e652607c3a0a08f074f387c2bf0b5b5eb084eac7f2a4d0275600633e2c40"), looks := true }, kinds := [], alts := [], laidByText := true, laidKinds := [.data, .data, .data], laidTests := true, laidLooks := .later }
def TreeTellsUptoCardSaid : Prop := Claim7.holds Tryd.pinned (.plain (OpenSpec.upto treeTellsSpec)) treeTellsUptoCard

/-- THE SECOND FORM's CARD OF 'shibbolethlaw06.TreeTwo'. -/
def treeTwoUptoCard : Claim7 := { stood := { row := treeTwoUptoRow, standIns := [], harness := (true, "c632e652607c3a0a08f074f387c2bf0b5b5eb084eac7f2a4d0275600633e2c40"), looks := true }, kinds := [], alts := [], laidByText := true, laidKinds := [.data, .data, .data], laidTests := true, laidLooks := .later }
def TreeTwoUptoCardSaid : Prop := Claim7.holds Tryd.pinned (.plain (OpenSpec.upto treeTwoSpec)) treeTwoUptoCard

/-- THE SECOND FORM's CARD OF 'shibbolethlaw06.TreePlain'. -/
def treePlainUptoCard : Claim7 := { stood := { row := treePlainUptoRow, standIns := [], harness := (true, "c632e652607c3a0a08f074f387c2bf0b5b5eb084eac7f2a4d0275600633e2c40"), looks := true }, kinds := [], alts := [], laidByText := true, laidKinds := [.data, .data, .data], laidTests := true, laidLooks := .later }
def TreePlainUptoCardSaid : Prop := Claim7.holds Tryd.pinned (.plain (OpenSpec.upto treePlainSpec)) treePlainUptoCard

/-- THE SECOND FORM's CARD OF 'shibbolethlaw07.RexBack'. -/
def rexBackUptoCard : Claim7 := { stood := { row := rexBackUptoRow, standIns := [], harness := (true, "c632e652607c3a0a08f074f387c2bf0b5b5eb084eac7f2a4d0275600633e2c40"), looks := true }, kinds := [], alts := [], laidByText := true, laidKinds := [.data, .data, .data], laidTests := true, laidLooks := .later }
def RexBackUptoCardSaid : Prop := Claim7.holds Tryd.pinned (.plain (OpenSpec.upto rexBackSpec)) rexBackUptoCard
end Rows
end Go.Proofs.YtebkaajnnjfhjaaDoor
