/-
  No cell of these rows narrows 'for every input' (looked for: loops, veiled, ifaces, maps, wideKeys, modest, calm, conditions, laid).
  DERIVED. THE GIVEN ROWS OF THIS SEAT. 2 by the template 'for every input the law returns true; each argument reads behind the call as it read before'; 0 by the template 'total and deterministic' (their statements: YtebkaajnnjfhjaaTotals.lean).
  GIVEN WITH THE SEED: the statements are not yours to turn. If you find one false, say at which input.
  Laid BY PROGRAM, IN A SANDBOX (cutbox-rows.mjs): the forced cells as the released guide's own fill.sh prints them over the translation 2e47fd8151e20179… (all of the seat's roots in one cut). By AI agents, Wed Nov 11 2026. No macro, syntax, notation, axiom, sorry.
-/
import Derived.Test.YtebkaajnnjfhjaaChecked
import GoSem.Claim
import GoSem.ClaimJoined
import GoSem.ClaimMapViews
import Derived.JoinedTies
import Derived.KernelRfl
namespace Go.Proofs.Ytebkaajnnjfhjaa
/- THE CELL 'sum', in the pinned program and in every row, IS THE sha256 OF THE DUMP (.gsa) THAT YtebkaajnnjfhjaaProg.lean LOADS. Nothing in Lean hashes anything: it is a label: what it is worth is what the hold of that sum in a sandbox is worth. -/
noncomputable def Try.pinned : Pinned := { name := "ytebkaajnnjfhjaa", sum := "2e47fd8151e20179348b050d728a27d76a5229dc53e60663cb7ba57240896243", checked := Try.checked }
namespace Rows
def none {H : Type} : Left H := { results := [], args := [] }

/-- 'shibbolethlaw07.RexKnown': WHATEVER THE INPUT: true; the input reads as it did. -/
def rexKnownSpec : ChangeSpec := { name := "rexKnown", fn := fun _ => fun
  | [] => { results := [.lit (.bool true)], args := [] }
  | _ => none }
def rexKnownRow : OpenClaim := { program := "ytebkaajnnjfhjaa", sum := "2e47fd8151e20179348b050d728a27d76a5229dc53e60663cb7ba57240896243", func := "shibboleth/shibbolethlaw07.RexKnown", spec := "rexKnown", inPlace := ["internal/bytealg.IndexByteString"], unfollowed := true, recurses := true, apart := false }
def RexKnownSaid : Prop := rexKnownRow.holds Try.pinned (OpenSpec.ofChange rexKnownSpec)

/-- ITS FALSE NEIGHBOUR: 'it returns false'. Refute it at one input. -/
def rexKnownWrong : ChangeSpec := { name := "rexKnown", fn := fun _ => fun
  | [] => { results := [.lit (.bool false)], args := [] }
  | _ => none }
def RexKnownWrongFalsely : Prop := rexKnownRow.holds Try.pinned (OpenSpec.ofChange rexKnownWrong)

/-- 'shibbolethlaw07.RexPlace': WHATEVER THE INPUT: true; the input reads as it did. -/
def rexPlaceSpec : ChangeSpec := { name := "rexPlace", fn := fun _ => fun
  | [d1, d2] => { results := [.lit (.bool true)], args := [d1, d2] }
  | _ => none }
def rexPlaceRow : OpenClaim := { program := "ytebkaajnnjfhjaa", sum := "2e47fd8151e20179348b050d728a27d76a5229dc53e60663cb7ba57240896243", func := "shibboleth/shibbolethlaw07.RexPlace", spec := "rexPlace", inPlace := ["internal/bytealg.IndexByteString"], unfollowed := true, recurses := true, apart := false }
def RexPlaceSaid : Prop := rexPlaceRow.holds Try.pinned (OpenSpec.ofChange rexPlaceSpec)

/-- ITS FALSE NEIGHBOUR: 'it returns false'. Refute it at one input. -/
def rexPlaceWrong : ChangeSpec := { name := "rexPlace", fn := fun _ => fun
  | [d1, d2] => { results := [.lit (.bool false)], args := [d1, d2] }
  | _ => none }
def RexPlaceWrongFalsely : Prop := rexPlaceRow.holds Try.pinned (OpenSpec.ofChange rexPlaceWrong)

/- THE SECOND FORM. 'bulk': how many values and letters a reading holds, each counted each time it is reached (what is shared counts as often as it is met; a slice's spare places count too). A statement '..UptoSaid' is the law's where the arguments, and the package variables that the reading takes, are together of bulk at most 1048576: NARROWER than '..Said'. Prove '..Said' where nothing that the law and all that it calls make is longer than what came in: it says more and counts as full. Else prove '..UptoSaid'. A law counts once. -/
mutual
def uptoBulk {H : Type} : DataW H → Nat
  | .lit (.string bytes) => bytes.length + 1
  | .lit _ => 1
  | .nil => 1
  | .ptr d => uptoBulk d + 1
  | .slice elems spare => uptoBulkAll elems + uptoBulkAll spare + 1
  | .agg parts => uptoBulkAll parts + 1
  | .iface _ d => uptoBulk d + 1
  | .map entries => uptoBulkEntries entries + 1
  | .held _ => 1
def uptoBulkAll {H : Type} : List (DataW H) → Nat
  | [] => 0
  | d :: r => uptoBulk d + uptoBulkAll r
def uptoBulkEntries {H : Type} : List (Lit × DataW H) → Nat
  | [] => 0
  | x :: r => uptoBulkEntry x + uptoBulkEntries r
def uptoBulkEntry {H : Type} : Lit × DataW H → Nat
  | (.string bytes, d) => bytes.length + uptoBulk d + 1
  | (_, d) => uptoBulk d + 1
 end
def uptoSmall : (H : Type) → List (DataW H) → Bool := fun _ ds => decide (uptoBulkAll ds ≤ 1048576)
def OpenSpec.upto (s : _root_.Go.ChangeSpec) : _root_.Go.OpenSpec := { _root_.Go.OpenSpec.ofChange s with cond := some uptoSmall }

/-- 'shibbolethlaw07.RexKnown', WHERE WHAT IT READS IS OF BULK AT MOST 1048576: true; the input reads as it did. -/
def rexKnownUptoRow : OpenClaim := { program := "ytebkaajnnjfhjaa", sum := "2e47fd8151e20179348b050d728a27d76a5229dc53e60663cb7ba57240896243", func := "shibboleth/shibbolethlaw07.RexKnown", spec := "rexKnown", inPlace := ["internal/bytealg.IndexByteString"], unfollowed := true, recurses := true, apart := false, narrowed := true }
def RexKnownUptoSaid : Prop := rexKnownUptoRow.holds Try.pinned (OpenSpec.upto rexKnownSpec)

/-- 'shibbolethlaw07.RexPlace', WHERE WHAT IT READS IS OF BULK AT MOST 1048576: true; the input reads as it did. -/
def rexPlaceUptoRow : OpenClaim := { program := "ytebkaajnnjfhjaa", sum := "2e47fd8151e20179348b050d728a27d76a5229dc53e60663cb7ba57240896243", func := "shibboleth/shibbolethlaw07.RexPlace", spec := "rexPlace", inPlace := ["internal/bytealg.IndexByteString"], unfollowed := true, recurses := true, apart := false, narrowed := true }
def RexPlaceUptoSaid : Prop := rexPlaceUptoRow.holds Try.pinned (OpenSpec.upto rexPlaceSpec)

end Rows
end Go.Proofs.Ytebkaajnnjfhjaa
