/-
  No cell of these rows narrows 'for every input' (looked for: loops, veiled, ifaces, maps, wideKeys, modest, calm, conditions, laid).
  DERIVED. THE GIVEN ROWS OF THIS SEAT. 6 by the template 'for every input the law returns true; each argument reads behind the call as it read before'; 0 by the template 'total and deterministic' (their statements: YtjcjalobbgkcpaaTotals.lean).
  GIVEN WITH THE SEED: the statements are not yours to turn. If you find one false, say at which input.
  Laid BY PROGRAM, IN A SANDBOX (cutbox-rows.mjs): the forced cells as the released guide's own fill.sh prints them over the translation 808563c773c764f0… (all of the seat's roots in one cut). By AI agents, Wed Nov 11 2026. No macro, syntax, notation, axiom, sorry.
-/
import Derived.Test.YtjcjalobbgkcpaaChecked
import GoSem.Claim
import GoSem.ClaimJoined
import GoSem.ClaimMapViews
import Derived.JoinedTies
import Derived.KernelRfl
namespace Go.Proofs.Ytjcjalobbgkcpaa
/- THE CELL 'sum', in the pinned program and in every row, IS THE sha256 OF THE DUMP (.gsa) THAT YtjcjalobbgkcpaaProg.lean LOADS. Nothing in Lean hashes anything: it is a label: what it is worth is what the hold of that sum in a sandbox is worth. -/
noncomputable def Try.pinned : Pinned := { name := "ytjcjalobbgkcpaa", sum := "808563c773c764f081a783c2fef6d8deb58c293eaf757b9afc1a3fee8fe3d37a", checked := Try.checked }
namespace Rows
def none {H : Type} : Left H := { results := [], args := [] }

/-- 'shibbolethlaw04.PurseKnown': WHATEVER THE INPUT: true; the input reads as it did. -/
def purseKnownSpec : ChangeSpec := { name := "purseKnown", fn := fun _ => fun
  | [] => { results := [.lit (.bool true)], args := [] }
  | _ => none }
def purseKnownRow : OpenClaim := { program := "ytjcjalobbgkcpaa", sum := "808563c773c764f081a783c2fef6d8deb58c293eaf757b9afc1a3fee8fe3d37a", func := "shibboleth/shibbolethlaw04.PurseKnown", spec := "purseKnown", inPlace := ["math.archFloor", "math.Float64bits", "math.Float64frombits", "math.archTrunc", "math.archMax"], unfollowed := true, recurses := true, apart := false }
def PurseKnownSaid : Prop := purseKnownRow.holds Try.pinned (OpenSpec.ofChange purseKnownSpec)

/-- ITS FALSE NEIGHBOUR: 'it returns false'. Refute it at one input. -/
def purseKnownWrong : ChangeSpec := { name := "purseKnown", fn := fun _ => fun
  | [] => { results := [.lit (.bool false)], args := [] }
  | _ => none }
def PurseKnownWrongFalsely : Prop := purseKnownRow.holds Try.pinned (OpenSpec.ofChange purseKnownWrong)

/-- 'shibbolethlaw04.PursePlays': WHATEVER THE INPUT: true; the input reads as it did. -/
def pursePlaysSpec : ChangeSpec := { name := "pursePlays", fn := fun _ => fun
  | [d1, d2] => { results := [.lit (.bool true)], args := [d1, d2] }
  | _ => none }
def pursePlaysRow : OpenClaim := { program := "ytjcjalobbgkcpaa", sum := "808563c773c764f081a783c2fef6d8deb58c293eaf757b9afc1a3fee8fe3d37a", func := "shibboleth/shibbolethlaw04.PursePlays", spec := "pursePlays", inPlace := ["math.archFloor", "math.Float64bits", "math.Float64frombits", "math.archTrunc", "math.archMax"], unfollowed := true, recurses := true, apart := false }
def PursePlaysSaid : Prop := pursePlaysRow.holds Try.pinned (OpenSpec.ofChange pursePlaysSpec)

/-- ITS FALSE NEIGHBOUR: 'it returns false'. Refute it at one input. -/
def pursePlaysWrong : ChangeSpec := { name := "pursePlays", fn := fun _ => fun
  | [d1, d2] => { results := [.lit (.bool false)], args := [d1, d2] }
  | _ => none }
def PursePlaysWrongFalsely : Prop := pursePlaysRow.holds Try.pinned (OpenSpec.ofChange pursePlaysWrong)

/-- 'shibbolethlaw04.PurseBound': WHATEVER THE INPUT: true; the input reads as it did. -/
def purseBoundSpec : ChangeSpec := { name := "purseBound", fn := fun _ => fun
  | [d1, d2] => { results := [.lit (.bool true)], args := [d1, d2] }
  | _ => none }
def purseBoundRow : OpenClaim := { program := "ytjcjalobbgkcpaa", sum := "808563c773c764f081a783c2fef6d8deb58c293eaf757b9afc1a3fee8fe3d37a", func := "shibboleth/shibbolethlaw04.PurseBound", spec := "purseBound", inPlace := ["math.Float64bits", "math.Float64frombits", "math.archFloor", "math.archTrunc", "math.archMax"], unfollowed := true, recurses := true, apart := false }
def PurseBoundSaid : Prop := purseBoundRow.holds Try.pinned (OpenSpec.ofChange purseBoundSpec)

/-- ITS FALSE NEIGHBOUR: 'it returns false'. Refute it at one input. -/
def purseBoundWrong : ChangeSpec := { name := "purseBound", fn := fun _ => fun
  | [d1, d2] => { results := [.lit (.bool false)], args := [d1, d2] }
  | _ => none }
def PurseBoundWrongFalsely : Prop := purseBoundRow.holds Try.pinned (OpenSpec.ofChange purseBoundWrong)

/-- 'shibbolethlaw04.PurseMore': WHATEVER THE INPUT: true; the input reads as it did. -/
def purseMoreSpec : ChangeSpec := { name := "purseMore", fn := fun _ => fun
  | [d1, d2, d3] => { results := [.lit (.bool true)], args := [d1, d2, d3] }
  | _ => none }
def purseMoreRow : OpenClaim := { program := "ytjcjalobbgkcpaa", sum := "808563c773c764f081a783c2fef6d8deb58c293eaf757b9afc1a3fee8fe3d37a", func := "shibboleth/shibbolethlaw04.PurseMore", spec := "purseMore", inPlace := ["math.archFloor", "math.Float64bits", "math.Float64frombits", "math.archTrunc", "math.archMax"], unfollowed := true, recurses := true, apart := false }
def PurseMoreSaid : Prop := purseMoreRow.holds Try.pinned (OpenSpec.ofChange purseMoreSpec)

/-- ITS FALSE NEIGHBOUR: 'it returns false'. Refute it at one input. -/
def purseMoreWrong : ChangeSpec := { name := "purseMore", fn := fun _ => fun
  | [d1, d2, d3] => { results := [.lit (.bool false)], args := [d1, d2, d3] }
  | _ => none }
def PurseMoreWrongFalsely : Prop := purseMoreRow.holds Try.pinned (OpenSpec.ofChange purseMoreWrong)

/-- 'shibbolethlaw04.PurseSum': WHATEVER THE INPUT: true; the input reads as it did. -/
def purseSumSpec : ChangeSpec := { name := "purseSum", fn := fun _ => fun
  | [d1, d2] => { results := [.lit (.bool true)], args := [d1, d2] }
  | _ => none }
def purseSumRow : OpenClaim := { program := "ytjcjalobbgkcpaa", sum := "808563c773c764f081a783c2fef6d8deb58c293eaf757b9afc1a3fee8fe3d37a", func := "shibboleth/shibbolethlaw04.PurseSum", spec := "purseSum", inPlace := ["math.archFloor", "math.Float64bits", "math.Float64frombits", "math.archTrunc", "math.archMax"], unfollowed := true, recurses := true, apart := false }
def PurseSumSaid : Prop := purseSumRow.holds Try.pinned (OpenSpec.ofChange purseSumSpec)

/-- ITS FALSE NEIGHBOUR: 'it returns false'. Refute it at one input. -/
def purseSumWrong : ChangeSpec := { name := "purseSum", fn := fun _ => fun
  | [d1, d2] => { results := [.lit (.bool false)], args := [d1, d2] }
  | _ => none }
def PurseSumWrongFalsely : Prop := purseSumRow.holds Try.pinned (OpenSpec.ofChange purseSumWrong)

/-- 'shibbolethlaw04.PurseNested': WHATEVER THE INPUT: true; the input reads as it did. -/
def purseNestedSpec : ChangeSpec := { name := "purseNested", fn := fun _ => fun
  | [d1, d2, d3, d4] => { results := [.lit (.bool true)], args := [d1, d2, d3, d4] }
  | _ => none }
def purseNestedRow : OpenClaim := { program := "ytjcjalobbgkcpaa", sum := "808563c773c764f081a783c2fef6d8deb58c293eaf757b9afc1a3fee8fe3d37a", func := "shibboleth/shibbolethlaw04.PurseNested", spec := "purseNested", inPlace := ["math.archFloor", "math.Float64bits", "math.Float64frombits", "math.archTrunc", "math.archMax"], unfollowed := true, recurses := true, apart := false }
def PurseNestedSaid : Prop := purseNestedRow.holds Try.pinned (OpenSpec.ofChange purseNestedSpec)

/-- ITS FALSE NEIGHBOUR: 'it returns false'. Refute it at one input. -/
def purseNestedWrong : ChangeSpec := { name := "purseNested", fn := fun _ => fun
  | [d1, d2, d3, d4] => { results := [.lit (.bool false)], args := [d1, d2, d3, d4] }
  | _ => none }
def PurseNestedWrongFalsely : Prop := purseNestedRow.holds Try.pinned (OpenSpec.ofChange purseNestedWrong)

/- THE SECOND FORM. 'bulk': how many values and letters a reading holds, each counted each time it is reached (what is shared counts as often as it is met; a slice's spare places count too). A statement '..UptoSaid' is the law's where the arguments, and the package variables that the reading takes, are together of bulk at most 1048576: NARROWER than '..Said'. Prove '..Said' where nothing that the law and all that it calls make is longer than what came in: it says more and counts as full. Else prove '..UptoSaid'. A law counts once. -/
mutual
def uptoBulk {H : Type} : DataW H → Nat
  | .lit (.string bytes) => bytes.length + 1
  | .lit _ => 1
  | .nil => 1
  | .ptr d => uptoBulk d + 1
  | .slice elems spare => uptoBulkAll elems + uptoBulkAll spare + 1
  | .agg parts => uptoBulkAll parts + 1
  | .iface _ d => uptoBulk d + 1
  | .map entries => uptoBulkEntries entries + 1
  | .held _ => 1
def uptoBulkAll {H : Type} : List (DataW H) → Nat
  | [] => 0
  | d :: r => uptoBulk d + uptoBulkAll r
def uptoBulkEntries {H : Type} : List (Lit × DataW H) → Nat
  | [] => 0
  | x :: r => uptoBulkEntry x + uptoBulkEntries r
def uptoBulkEntry {H : Type} : Lit × DataW H → Nat
  | (.string bytes, d) => bytes.length + uptoBulk d + 1
  | (_, d) => uptoBulk d + 1
 end
def uptoSmall : (H : Type) → List (DataW H) → Bool := fun _ ds => decide (uptoBulkAll ds ≤ 1048576)
def OpenSpec.upto (s : _root_.Go.ChangeSpec) : _root_.Go.OpenSpec := { _root_.Go.OpenSpec.ofChange s with cond := some uptoSmall }

/-- 'shibbolethlaw04.PurseKnown', WHERE WHAT IT READS IS OF BULK AT MOST 1048576: true; the input reads as it did. -/
def purseKnownUptoRow : OpenClaim := { program := "ytjcjalobbgkcpaa", sum := "808563c773c764f081a783c2fef6d8deb58c293eaf757b9afc1a3fee8fe3d37a", func := "shibboleth/shibbolethlaw04.PurseKnown", spec := "purseKnown", inPlace := ["math.archFloor", "math.Float64bits", "math.Float64frombits", "math.archTrunc", "math.archMax"], unfollowed := true, recurses := true, apart := false, narrowed := true }
def PurseKnownUptoSaid : Prop := purseKnownUptoRow.holds Try.pinned (OpenSpec.upto purseKnownSpec)

/-- 'shibbolethlaw04.PursePlays', WHERE WHAT IT READS IS OF BULK AT MOST 1048576: true; the input reads as it did. -/
def pursePlaysUptoRow : OpenClaim := { program := "ytjcjalobbgkcpaa", sum := "808563c773c764f081a783c2fef6d8deb58c293eaf757b9afc1a3fee8fe3d37a", func := "shibboleth/shibbolethlaw04.PursePlays", spec := "pursePlays", inPlace := ["math.archFloor", "math.Float64bits", "math.Float64frombits", "math.archTrunc", "math.archMax"], unfollowed := true, recurses := true, apart := false, narrowed := true }
def PursePlaysUptoSaid : Prop := pursePlaysUptoRow.holds Try.pinned (OpenSpec.upto pursePlaysSpec)

/-- 'shibbolethlaw04.PurseBound', WHERE WHAT IT READS IS OF BULK AT MOST 1048576: true; the input reads as it did. -/
def purseBoundUptoRow : OpenClaim := { program := "ytjcjalobbgkcpaa", sum := "808563c773c764f081a783c2fef6d8deb58c293eaf757b9afc1a3fee8fe3d37a", func := "shibboleth/shibbolethlaw04.PurseBound", spec := "purseBound", inPlace := ["math.Float64bits", "math.Float64frombits", "math.archFloor", "math.archTrunc", "math.archMax"], unfollowed := true, recurses := true, apart := false, narrowed := true }
def PurseBoundUptoSaid : Prop := purseBoundUptoRow.holds Try.pinned (OpenSpec.upto purseBoundSpec)

/-- 'shibbolethlaw04.PurseMore', WHERE WHAT IT READS IS OF BULK AT MOST 1048576: true; the input reads as it did. -/
def purseMoreUptoRow : OpenClaim := { program := "ytjcjalobbgkcpaa", sum := "808563c773c764f081a783c2fef6d8deb58c293eaf757b9afc1a3fee8fe3d37a", func := "shibboleth/shibbolethlaw04.PurseMore", spec := "purseMore", inPlace := ["math.archFloor", "math.Float64bits", "math.Float64frombits", "math.archTrunc", "math.archMax"], unfollowed := true, recurses := true, apart := false, narrowed := true }
def PurseMoreUptoSaid : Prop := purseMoreUptoRow.holds Try.pinned (OpenSpec.upto purseMoreSpec)

/-- 'shibbolethlaw04.PurseSum', WHERE WHAT IT READS IS OF BULK AT MOST 1048576: true; the input reads as it did. -/
def purseSumUptoRow : OpenClaim := { program := "ytjcjalobbgkcpaa", sum := "808563c773c764f081a783c2fef6d8deb58c293eaf757b9afc1a3fee8fe3d37a", func := "shibboleth/shibbolethlaw04.PurseSum", spec := "purseSum", inPlace := ["math.archFloor", "math.Float64bits", "math.Float64frombits", "math.archTrunc", "math.archMax"], unfollowed := true, recurses := true, apart := false, narrowed := true }
def PurseSumUptoSaid : Prop := purseSumUptoRow.holds Try.pinned (OpenSpec.upto purseSumSpec)

/-- 'shibbolethlaw04.PurseNested', WHERE WHAT IT READS IS OF BULK AT MOST 1048576: true; the input reads as it did. -/
def purseNestedUptoRow : OpenClaim := { program := "ytjcjalobbgkcpaa", sum := "808563c773c764f081a783c2fef6d8deb58c293eaf757b9afc1a3fee8fe3d37a", func := "shibboleth/shibbolethlaw04.PurseNested", spec := "purseNested", inPlace := ["math.archFloor", "math.Float64bits", "math.Float64frombits", "math.archTrunc", "math.archMax"], unfollowed := true, recurses := true, apart := false, narrowed := true }
def PurseNestedUptoSaid : Prop := purseNestedUptoRow.holds Try.pinned (OpenSpec.upto purseNestedSpec)

end Rows
end Go.Proofs.Ytjcjalobbgkcpaa
