/-
  DERIVED. GIVEN WITH THE SEED: THE CARDS: each row of YtckcgiimeaklcaaDoorRows.lean that lists a variable, with what it lists TIED to the program's text (the seventh form; the later family's looks); each row that meets fmt, with fmt's text TOLD by the authors' own Lean function (tested against real Go, not proved from fmt's source: count such statements apart). THE CARD IS WHAT COUNTS. Prove the row's statement (the work); the ties are given (YtckcgiimeaklcaaDoorTie.lean); close each card by the builder's one call (the guide's Derived/Test/ToyasCard.lean, 'card_holds'). Laid BY PROGRAM, IN A SANDBOX (cutbox-door.mjs). By AI agents, Wed Nov 11 2026. No macro, syntax, notation, axiom, sorry.
-/
import Derived.Test.YtckcgiimeaklcaaDoorRows
import GoSem.ClaimSeven
namespace Go.Proofs.YtckcgiimeaklcaaDoor
namespace Rows

/-- THE TIED CARD OF 'shibbolethlaw23.AbnfKnown'. -/
def abnfKnownCard : Claim7 := { stood := { row := abnfKnownRow, standIns := [], harness := (true, "386aac8a1b202abb4869b324da551b3e8bb19197e82562b5494fa92aade3b11d"), looks := true }, kinds := [], alts := [], laidByText := true, laidKinds := [.data, .pinned], laidTests := true, laidLooks := .later }
def AbnfKnownCardSaid : Prop := Claim7.holds Tryd.pinned (.plain (OpenSpec.ofChange abnfKnownSpec)) abnfKnownCard

/-- THE TIED CARD OF 'shibbolethlaw23.AbnfRows'. -/
def abnfRowsCard : Claim7 := { stood := { row := abnfRowsRow, standIns := [], harness := (true, "386aac8a1b202abb4869b324da551b3e8bb19197e82562b5494fa92aade3b11d"), looks := true }, kinds := [], alts := [], laidByText := true, laidKinds := [.data, .pinned], laidTests := true, laidLooks := .later }
def AbnfRowsCardSaid : Prop := Claim7.holds Tryd.pinned (.plain (OpenSpec.ofChange abnfRowsSpec)) abnfRowsCard

/-- THE SECOND FORM's CARD OF 'shibbolethlaw23.AbnfKnown'. -/
def abnfKnownUptoCard : Claim7 := { stood := { row := abnfKnownUptoRow, standIns := [], harness := (true, "386aac8a1b202abb4869b324da551b3e8bb19197e82562b5494fa92aade3b11d"), looks := true }, kinds := [], alts := [], laidByText := true, laidKinds := [.data, .pinned], laidTests := true, laidLooks := .later }
def AbnfKnownUptoCardSaid : Prop := Claim7.holds Tryd.pinned (.plain (OpenSpec.upto abnfKnownSpec)) abnfKnownUptoCard

/-- THE SECOND FORM's CARD OF 'shibbolethlaw23.AbnfRows'. -/
def abnfRowsUptoCard : Claim7 := { stood := { row := abnfRowsUptoRow, standIns := [], harness := (true, "386aac8a1b202abb4869b324da551b3e8bb19197e82562b5494fa92aade3b11d"), looks := true }, kinds := [], alts := [], laidByText := true, laidKinds := [.data, .pinned], laidTests := true, laidLooks := .later }
def AbnfRowsUptoCardSaid : Prop := Claim7.holds Tryd.pinned (.plain (OpenSpec.upto abnfRowsSpec)) abnfRowsUptoCard
end Rows
end Go.Proofs.YtckcgiimeaklcaaDoor
