/-
  No cell of these rows narrows 'for every input' (looked for: loops, veiled, ifaces, maps, wideKeys, modest, calm, conditions, laid).
  DERIVED. THE GIVEN ROWS OF THIS SEAT. 5 by the template 'for every input the law returns true; each argument reads behind the call as it read before'; 0 by the template 'total and deterministic' (their statements: YtpccfagbmbbpkaaTotals.lean).
  GIVEN WITH THE SEED: the statements are not yours to turn. If you find one false, say at which input.
  Laid BY PROGRAM, IN A SANDBOX (cutbox-rows.mjs): the forced cells as the released guide's own fill.sh prints them over the translation 208125db30083b58… (all of the seat's roots in one cut). By AI agents, Wed Nov 11 2026. No macro, syntax, notation, axiom, sorry.
-/
import Derived.Test.YtpccfagbmbbpkaaChecked
import GoSem.Claim
import GoSem.ClaimJoined
import GoSem.ClaimMapViews
import Derived.JoinedTies
import Derived.KernelRfl
namespace Go.Proofs.Ytpccfagbmbbpkaa
/- THE CELL 'sum', in the pinned program and in every row, IS THE sha256 OF THE DUMP (.gsa) THAT YtpccfagbmbbpkaaProg.lean LOADS. Nothing in Lean hashes anything: it is a label: what it is worth is what the hold of that sum in a sandbox is worth. -/
noncomputable def Try.pinned : Pinned := { name := "ytpccfagbmbbpkaa", sum := "208125db30083b581aefdc0bc4ff4e60306ff3be451f730e831c79eae76fc8a3", checked := Try.checked }
namespace Rows
def none {H : Type} : Left H := { results := [], args := [] }

/-- 'shibbolethlaw20.GourlParses': WHATEVER THE INPUT: true; the input reads as it did. -/
def gourlParsesSpec : ChangeSpec := { name := "gourlParses", fn := fun _ => fun
  | [d] => { results := [.lit (.bool true)], args := [d] }
  | _ => none }
def gourlParsesRow : OpenClaim := { program := "ytpccfagbmbbpkaa", sum := "208125db30083b581aefdc0bc4ff4e60306ff3be451f730e831c79eae76fc8a3", func := "shibboleth/shibbolethlaw20.GourlParses", spec := "gourlParses", inPlace := ["internal/bytealg.IndexByteString", "internal/bytealg.IndexString"], named := ["internal/bytealg.MaxLen"], apart := false }
def GourlParsesSaid : Prop := gourlParsesRow.holds Try.pinned (OpenSpec.ofChange gourlParsesSpec)

/-- ITS FALSE NEIGHBOUR: 'it returns false'. Refute it at one input. -/
def gourlParsesWrong : ChangeSpec := { name := "gourlParses", fn := fun _ => fun
  | [d] => { results := [.lit (.bool false)], args := [d] }
  | _ => none }
def GourlParsesWrongFalsely : Prop := gourlParsesRow.holds Try.pinned (OpenSpec.ofChange gourlParsesWrong)

/-- 'shibbolethlaw20.GourlKnown': WHATEVER THE INPUT: true; the input reads as it did. -/
def gourlKnownSpec : ChangeSpec := { name := "gourlKnown", fn := fun _ => fun
  | [] => { results := [.lit (.bool true)], args := [] }
  | _ => none }
def gourlKnownRow : OpenClaim := { program := "ytpccfagbmbbpkaa", sum := "208125db30083b581aefdc0bc4ff4e60306ff3be451f730e831c79eae76fc8a3", func := "shibboleth/shibbolethlaw20.GourlKnown", spec := "gourlKnown", inPlace := ["internal/bytealg.IndexByteString", "internal/bytealg.IndexString"], named := ["internal/bytealg.MaxLen"], apart := false }
def GourlKnownSaid : Prop := gourlKnownRow.holds Try.pinned (OpenSpec.ofChange gourlKnownSpec)

/-- ITS FALSE NEIGHBOUR: 'it returns false'. Refute it at one input. -/
def gourlKnownWrong : ChangeSpec := { name := "gourlKnown", fn := fun _ => fun
  | [] => { results := [.lit (.bool false)], args := [] }
  | _ => none }
def GourlKnownWrongFalsely : Prop := gourlKnownRow.holds Try.pinned (OpenSpec.ofChange gourlKnownWrong)

/-- 'shibbolethlaw20.GourlSpans': WHATEVER THE INPUT: true; the input reads as it did. -/
def gourlSpansSpec : ChangeSpec := { name := "gourlSpans", fn := fun _ => fun
  | [d] => { results := [.lit (.bool true)], args := [d] }
  | _ => none }
def gourlSpansRow : OpenClaim := { program := "ytpccfagbmbbpkaa", sum := "208125db30083b581aefdc0bc4ff4e60306ff3be451f730e831c79eae76fc8a3", func := "shibboleth/shibbolethlaw20.GourlSpans", spec := "gourlSpans", inPlace := ["internal/bytealg.IndexByteString", "internal/bytealg.IndexString"], named := ["internal/bytealg.MaxLen"], apart := false }
def GourlSpansSaid : Prop := gourlSpansRow.holds Try.pinned (OpenSpec.ofChange gourlSpansSpec)

/-- ITS FALSE NEIGHBOUR: 'it returns false'. Refute it at one input. -/
def gourlSpansWrong : ChangeSpec := { name := "gourlSpans", fn := fun _ => fun
  | [d] => { results := [.lit (.bool false)], args := [d] }
  | _ => none }
def GourlSpansWrongFalsely : Prop := gourlSpansRow.holds Try.pinned (OpenSpec.ofChange gourlSpansWrong)

/-- 'shibbolethlaw20.GourlBehind': WHATEVER THE INPUT: true; the input reads as it did. -/
def gourlBehindSpec : ChangeSpec := { name := "gourlBehind", fn := fun _ => fun
  | [d1, d2] => { results := [.lit (.bool true)], args := [d1, d2] }
  | _ => none }
def gourlBehindRow : OpenClaim := { program := "ytpccfagbmbbpkaa", sum := "208125db30083b581aefdc0bc4ff4e60306ff3be451f730e831c79eae76fc8a3", func := "shibboleth/shibbolethlaw20.GourlBehind", spec := "gourlBehind", inPlace := ["internal/bytealg.IndexByteString", "internal/bytealg.IndexString"], named := ["internal/bytealg.MaxLen"], apart := false }
def GourlBehindSaid : Prop := gourlBehindRow.holds Try.pinned (OpenSpec.ofChange gourlBehindSpec)

/-- ITS FALSE NEIGHBOUR: 'it returns false'. Refute it at one input. -/
def gourlBehindWrong : ChangeSpec := { name := "gourlBehind", fn := fun _ => fun
  | [d1, d2] => { results := [.lit (.bool false)], args := [d1, d2] }
  | _ => none }
def GourlBehindWrongFalsely : Prop := gourlBehindRow.holds Try.pinned (OpenSpec.ofChange gourlBehindWrong)

/-- 'shibbolethlaw20.GourlBuilt': WHATEVER THE INPUT: true; the input reads as it did. -/
def gourlBuiltSpec : ChangeSpec := { name := "gourlBuilt", fn := fun _ => fun
  | [d1, d2, d3, d4, d5, d6] => { results := [.lit (.bool true)], args := [d1, d2, d3, d4, d5, d6] }
  | _ => none }
def gourlBuiltRow : OpenClaim := { program := "ytpccfagbmbbpkaa", sum := "208125db30083b581aefdc0bc4ff4e60306ff3be451f730e831c79eae76fc8a3", func := "shibboleth/shibbolethlaw20.GourlBuilt", spec := "gourlBuilt", inPlace := ["internal/bytealg.IndexByteString", "internal/bytealg.IndexString"], named := ["internal/bytealg.MaxLen"], apart := false }
def GourlBuiltSaid : Prop := gourlBuiltRow.holds Try.pinned (OpenSpec.ofChange gourlBuiltSpec)

/-- ITS FALSE NEIGHBOUR: 'it returns false'. Refute it at one input. -/
def gourlBuiltWrong : ChangeSpec := { name := "gourlBuilt", fn := fun _ => fun
  | [d1, d2, d3, d4, d5, d6] => { results := [.lit (.bool false)], args := [d1, d2, d3, d4, d5, d6] }
  | _ => none }
def GourlBuiltWrongFalsely : Prop := gourlBuiltRow.holds Try.pinned (OpenSpec.ofChange gourlBuiltWrong)

/- THE SECOND FORM. 'bulk': how many values and letters a reading holds, each counted each time it is reached (what is shared counts as often as it is met; a slice's spare places count too). A statement '..UptoSaid' is the law's where the arguments, and the package variables that the reading takes, are together of bulk at most 1048576: NARROWER than '..Said'. Prove '..Said' where nothing that the law and all that it calls make is longer than what came in: it says more and counts as full. Else prove '..UptoSaid'. A law counts once. -/
mutual
def uptoBulk {H : Type} : DataW H → Nat
  | .lit (.string bytes) => bytes.length + 1
  | .lit _ => 1
  | .nil => 1
  | .ptr d => uptoBulk d + 1
  | .slice elems spare => uptoBulkAll elems + uptoBulkAll spare + 1
  | .agg parts => uptoBulkAll parts + 1
  | .iface _ d => uptoBulk d + 1
  | .map entries => uptoBulkEntries entries + 1
  | .held _ => 1
def uptoBulkAll {H : Type} : List (DataW H) → Nat
  | [] => 0
  | d :: r => uptoBulk d + uptoBulkAll r
def uptoBulkEntries {H : Type} : List (Lit × DataW H) → Nat
  | [] => 0
  | x :: r => uptoBulkEntry x + uptoBulkEntries r
def uptoBulkEntry {H : Type} : Lit × DataW H → Nat
  | (.string bytes, d) => bytes.length + uptoBulk d + 1
  | (_, d) => uptoBulk d + 1
 end
def uptoSmall : (H : Type) → List (DataW H) → Bool := fun _ ds => decide (uptoBulkAll ds ≤ 1048576)
def OpenSpec.upto (s : _root_.Go.ChangeSpec) : _root_.Go.OpenSpec := { _root_.Go.OpenSpec.ofChange s with cond := some uptoSmall }

/-- 'shibbolethlaw20.GourlParses', WHERE WHAT IT READS IS OF BULK AT MOST 1048576: true; the input reads as it did. -/
def gourlParsesUptoRow : OpenClaim := { program := "ytpccfagbmbbpkaa", sum := "208125db30083b581aefdc0bc4ff4e60306ff3be451f730e831c79eae76fc8a3", func := "shibboleth/shibbolethlaw20.GourlParses", spec := "gourlParses", inPlace := ["internal/bytealg.IndexByteString", "internal/bytealg.IndexString"], named := ["internal/bytealg.MaxLen"], apart := false, narrowed := true }
def GourlParsesUptoSaid : Prop := gourlParsesUptoRow.holds Try.pinned (OpenSpec.upto gourlParsesSpec)

/-- 'shibbolethlaw20.GourlKnown', WHERE WHAT IT READS IS OF BULK AT MOST 1048576: true; the input reads as it did. -/
def gourlKnownUptoRow : OpenClaim := { program := "ytpccfagbmbbpkaa", sum := "208125db30083b581aefdc0bc4ff4e60306ff3be451f730e831c79eae76fc8a3", func := "shibboleth/shibbolethlaw20.GourlKnown", spec := "gourlKnown", inPlace := ["internal/bytealg.IndexByteString", "internal/bytealg.IndexString"], named := ["internal/bytealg.MaxLen"], apart := false, narrowed := true }
def GourlKnownUptoSaid : Prop := gourlKnownUptoRow.holds Try.pinned (OpenSpec.upto gourlKnownSpec)

/-- 'shibbolethlaw20.GourlSpans', WHERE WHAT IT READS IS OF BULK AT MOST 1048576: true; the input reads as it did. -/
def gourlSpansUptoRow : OpenClaim := { program := "ytpccfagbmbbpkaa", sum := "208125db30083b581aefdc0bc4ff4e60306ff3be451f730e831c79eae76fc8a3", func := "shibboleth/shibbolethlaw20.GourlSpans", spec := "gourlSpans", inPlace := ["internal/bytealg.IndexByteString", "internal/bytealg.IndexString"], named := ["internal/bytealg.MaxLen"], apart := false, narrowed := true }
def GourlSpansUptoSaid : Prop := gourlSpansUptoRow.holds Try.pinned (OpenSpec.upto gourlSpansSpec)

/-- 'shibbolethlaw20.GourlBehind', WHERE WHAT IT READS IS OF BULK AT MOST 1048576: true; the input reads as it did. -/
def gourlBehindUptoRow : OpenClaim := { program := "ytpccfagbmbbpkaa", sum := "208125db30083b581aefdc0bc4ff4e60306ff3be451f730e831c79eae76fc8a3", func := "shibboleth/shibbolethlaw20.GourlBehind", spec := "gourlBehind", inPlace := ["internal/bytealg.IndexByteString", "internal/bytealg.IndexString"], named := ["internal/bytealg.MaxLen"], apart := false, narrowed := true }
def GourlBehindUptoSaid : Prop := gourlBehindUptoRow.holds Try.pinned (OpenSpec.upto gourlBehindSpec)

/-- 'shibbolethlaw20.GourlBuilt', WHERE WHAT IT READS IS OF BULK AT MOST 1048576: true; the input reads as it did. -/
def gourlBuiltUptoRow : OpenClaim := { program := "ytpccfagbmbbpkaa", sum := "208125db30083b581aefdc0bc4ff4e60306ff3be451f730e831c79eae76fc8a3", func := "shibboleth/shibbolethlaw20.GourlBuilt", spec := "gourlBuilt", inPlace := ["internal/bytealg.IndexByteString", "internal/bytealg.IndexString"], named := ["internal/bytealg.MaxLen"], apart := false, narrowed := true }
def GourlBuiltUptoSaid : Prop := gourlBuiltUptoRow.holds Try.pinned (OpenSpec.upto gourlBuiltSpec)

end Rows
end Go.Proofs.Ytpccfagbmbbpkaa
