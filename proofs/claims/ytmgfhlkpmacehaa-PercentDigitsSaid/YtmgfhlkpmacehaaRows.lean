/-
  No cell of these rows narrows 'for every input' (looked for: loops, veiled, ifaces, maps, wideKeys, modest, calm, conditions, laid).
  DERIVED. THE GIVEN ROWS OF THIS SEAT. 6 by the template 'for every input the law returns true; each argument reads behind the call as it read before'; 0 by the template 'total and deterministic' (their statements: YtmgfhlkpmacehaaTotals.lean).
  GIVEN WITH THE SEED: the statements are not yours to turn. If you find one false, say at which input.
  Laid BY PROGRAM, IN A SANDBOX (cutbox-rows.mjs): the forced cells as the released guide's own fill.sh prints them over the translation 19295d4e7c9efff5… (all of the seat's roots in one cut). By AI agents, Wed Nov 11 2026. No macro, syntax, notation, axiom, sorry.
-/
import Derived.Test.YtmgfhlkpmacehaaChecked
import GoSem.Claim
import GoSem.ClaimJoined
import GoSem.ClaimMapViews
import Derived.JoinedTies
import Derived.KernelRfl
namespace Go.Proofs.Ytmgfhlkpmacehaa
/- THE CELL 'sum', in the pinned program and in every row, IS THE sha256 OF THE DUMP (.gsa) THAT YtmgfhlkpmacehaaProg.lean LOADS. Nothing in Lean hashes anything: it is a label: what it is worth is what the hold of that sum in a sandbox is worth. -/
noncomputable def Try.pinned : Pinned := { name := "ytmgfhlkpmacehaa", sum := "19295d4e7c9efff5df7948a070f4a969af4f017219f7c55373f0619c243c893e", checked := Try.checked }
namespace Rows
def none {H : Type} : Left H := { results := [], args := [] }

/-- 'shibbolethlaw03.PercentTells': WHATEVER THE INPUT: true; the input reads as it did. -/
def percentTellsSpec : ChangeSpec := { name := "percentTells", fn := fun _ => fun
  | [d1, d2] => { results := [.lit (.bool true)], args := [d1, d2] }
  | _ => none }
def percentTellsRow : OpenClaim := { program := "ytmgfhlkpmacehaa", sum := "19295d4e7c9efff5df7948a070f4a969af4f017219f7c55373f0619c243c893e", func := "shibboleth/shibbolethlaw03.PercentTells", spec := "percentTells", apart := false }
def PercentTellsSaid : Prop := percentTellsRow.holds Try.pinned (OpenSpec.ofChange percentTellsSpec)

/-- ITS FALSE NEIGHBOUR: 'it returns false'. Refute it at one input. -/
def percentTellsWrong : ChangeSpec := { name := "percentTells", fn := fun _ => fun
  | [d1, d2] => { results := [.lit (.bool false)], args := [d1, d2] }
  | _ => none }
def PercentTellsWrongFalsely : Prop := percentTellsRow.holds Try.pinned (OpenSpec.ofChange percentTellsWrong)

/-- 'shibbolethlaw03.PercentBack': WHATEVER THE INPUT: true; the input reads as it did. -/
def percentBackSpec : ChangeSpec := { name := "percentBack", fn := fun _ => fun
  | [d1, d2, d3] => { results := [.lit (.bool true)], args := [d1, d2, d3] }
  | _ => none }
def percentBackRow : OpenClaim := { program := "ytmgfhlkpmacehaa", sum := "19295d4e7c9efff5df7948a070f4a969af4f017219f7c55373f0619c243c893e", func := "shibboleth/shibbolethlaw03.PercentBack", spec := "percentBack", apart := false }
def PercentBackSaid : Prop := percentBackRow.holds Try.pinned (OpenSpec.ofChange percentBackSpec)

/-- ITS FALSE NEIGHBOUR: 'it returns false'. Refute it at one input. -/
def percentBackWrong : ChangeSpec := { name := "percentBack", fn := fun _ => fun
  | [d1, d2, d3] => { results := [.lit (.bool false)], args := [d1, d2, d3] }
  | _ => none }
def PercentBackWrongFalsely : Prop := percentBackRow.holds Try.pinned (OpenSpec.ofChange percentBackWrong)

/-- 'shibbolethlaw03.PercentUpper': WHATEVER THE INPUT: true; the input reads as it did. -/
def percentUpperSpec : ChangeSpec := { name := "percentUpper", fn := fun _ => fun
  | [d] => { results := [.lit (.bool true)], args := [d] }
  | _ => none }
def percentUpperRow : OpenClaim := { program := "ytmgfhlkpmacehaa", sum := "19295d4e7c9efff5df7948a070f4a969af4f017219f7c55373f0619c243c893e", func := "shibboleth/shibbolethlaw03.PercentUpper", spec := "percentUpper", apart := false }
def PercentUpperSaid : Prop := percentUpperRow.holds Try.pinned (OpenSpec.ofChange percentUpperSpec)

/-- ITS FALSE NEIGHBOUR: 'it returns false'. Refute it at one input. -/
def percentUpperWrong : ChangeSpec := { name := "percentUpper", fn := fun _ => fun
  | [d] => { results := [.lit (.bool false)], args := [d] }
  | _ => none }
def PercentUpperWrongFalsely : Prop := percentUpperRow.holds Try.pinned (OpenSpec.ofChange percentUpperWrong)

/-- 'shibbolethlaw03.PercentJoins': WHATEVER THE INPUT: true; the input reads as it did. -/
def percentJoinsSpec : ChangeSpec := { name := "percentJoins", fn := fun _ => fun
  | [d1, d2, d3] => { results := [.lit (.bool true)], args := [d1, d2, d3] }
  | _ => none }
def percentJoinsRow : OpenClaim := { program := "ytmgfhlkpmacehaa", sum := "19295d4e7c9efff5df7948a070f4a969af4f017219f7c55373f0619c243c893e", func := "shibboleth/shibbolethlaw03.PercentJoins", spec := "percentJoins", apart := false }
def PercentJoinsSaid : Prop := percentJoinsRow.holds Try.pinned (OpenSpec.ofChange percentJoinsSpec)

/-- ITS FALSE NEIGHBOUR: 'it returns false'. Refute it at one input. -/
def percentJoinsWrong : ChangeSpec := { name := "percentJoins", fn := fun _ => fun
  | [d1, d2, d3] => { results := [.lit (.bool false)], args := [d1, d2, d3] }
  | _ => none }
def PercentJoinsWrongFalsely : Prop := percentJoinsRow.holds Try.pinned (OpenSpec.ofChange percentJoinsWrong)

/-- 'shibbolethlaw03.PercentDigits': WHATEVER THE INPUT: true; the input reads as it did. -/
def percentDigitsSpec : ChangeSpec := { name := "percentDigits", fn := fun _ => fun
  | [] => { results := [.lit (.bool true)], args := [] }
  | _ => none }
def percentDigitsRow : OpenClaim := { program := "ytmgfhlkpmacehaa", sum := "19295d4e7c9efff5df7948a070f4a969af4f017219f7c55373f0619c243c893e", func := "shibboleth/shibbolethlaw03.PercentDigits", spec := "percentDigits", apart := false }
def PercentDigitsSaid : Prop := percentDigitsRow.holds Try.pinned (OpenSpec.ofChange percentDigitsSpec)

/-- ITS FALSE NEIGHBOUR: 'it returns false'. Refute it at one input. -/
def percentDigitsWrong : ChangeSpec := { name := "percentDigits", fn := fun _ => fun
  | [] => { results := [.lit (.bool false)], args := [] }
  | _ => none }
def PercentDigitsWrongFalsely : Prop := percentDigitsRow.holds Try.pinned (OpenSpec.ofChange percentDigitsWrong)

/-- 'shibbolethlaw03.PercentKnown': WHATEVER THE INPUT: true; the input reads as it did. -/
def percentKnownSpec : ChangeSpec := { name := "percentKnown", fn := fun _ => fun
  | [] => { results := [.lit (.bool true)], args := [] }
  | _ => none }
def percentKnownRow : OpenClaim := { program := "ytmgfhlkpmacehaa", sum := "19295d4e7c9efff5df7948a070f4a969af4f017219f7c55373f0619c243c893e", func := "shibboleth/shibbolethlaw03.PercentKnown", spec := "percentKnown", apart := false }
def PercentKnownSaid : Prop := percentKnownRow.holds Try.pinned (OpenSpec.ofChange percentKnownSpec)

/-- ITS FALSE NEIGHBOUR: 'it returns false'. Refute it at one input. -/
def percentKnownWrong : ChangeSpec := { name := "percentKnown", fn := fun _ => fun
  | [] => { results := [.lit (.bool false)], args := [] }
  | _ => none }
def PercentKnownWrongFalsely : Prop := percentKnownRow.holds Try.pinned (OpenSpec.ofChange percentKnownWrong)

/- THE SECOND FORM. 'bulk': how many values and letters a reading holds, each counted each time it is reached (what is shared counts as often as it is met; a slice's spare places count too). A statement '..UptoSaid' is the law's where the arguments, and the package variables that the reading takes, are together of bulk at most 1048576: NARROWER than '..Said'. Prove '..Said' where nothing that the law and all that it calls make is longer than what came in: it says more and counts as full. Else prove '..UptoSaid'. A law counts once. -/
mutual
def uptoBulk {H : Type} : DataW H → Nat
  | .lit (.string bytes) => bytes.length + 1
  | .lit _ => 1
  | .nil => 1
  | .ptr d => uptoBulk d + 1
  | .slice elems spare => uptoBulkAll elems + uptoBulkAll spare + 1
  | .agg parts => uptoBulkAll parts + 1
  | .iface _ d => uptoBulk d + 1
  | .map entries => uptoBulkEntries entries + 1
  | .held _ => 1
def uptoBulkAll {H : Type} : List (DataW H) → Nat
  | [] => 0
  | d :: r => uptoBulk d + uptoBulkAll r
def uptoBulkEntries {H : Type} : List (Lit × DataW H) → Nat
  | [] => 0
  | x :: r => uptoBulkEntry x + uptoBulkEntries r
def uptoBulkEntry {H : Type} : Lit × DataW H → Nat
  | (.string bytes, d) => bytes.length + uptoBulk d + 1
  | (_, d) => uptoBulk d + 1
 end
def uptoSmall : (H : Type) → List (DataW H) → Bool := fun _ ds => decide (uptoBulkAll ds ≤ 1048576)
def OpenSpec.upto (s : _root_.Go.ChangeSpec) : _root_.Go.OpenSpec := { _root_.Go.OpenSpec.ofChange s with cond := some uptoSmall }

/-- 'shibbolethlaw03.PercentTells', WHERE WHAT IT READS IS OF BULK AT MOST 1048576: true; the input reads as it did. -/
def percentTellsUptoRow : OpenClaim := { program := "ytmgfhlkpmacehaa", sum := "19295d4e7c9efff5df7948a070f4a969af4f017219f7c55373f0619c243c893e", func := "shibboleth/shibbolethlaw03.PercentTells", spec := "percentTells", apart := false, narrowed := true }
def PercentTellsUptoSaid : Prop := percentTellsUptoRow.holds Try.pinned (OpenSpec.upto percentTellsSpec)

/-- 'shibbolethlaw03.PercentBack', WHERE WHAT IT READS IS OF BULK AT MOST 1048576: true; the input reads as it did. -/
def percentBackUptoRow : OpenClaim := { program := "ytmgfhlkpmacehaa", sum := "19295d4e7c9efff5df7948a070f4a969af4f017219f7c55373f0619c243c893e", func := "shibboleth/shibbolethlaw03.PercentBack", spec := "percentBack", apart := false, narrowed := true }
def PercentBackUptoSaid : Prop := percentBackUptoRow.holds Try.pinned (OpenSpec.upto percentBackSpec)

/-- 'shibbolethlaw03.PercentUpper', WHERE WHAT IT READS IS OF BULK AT MOST 1048576: true; the input reads as it did. -/
def percentUpperUptoRow : OpenClaim := { program := "ytmgfhlkpmacehaa", sum := "19295d4e7c9efff5df7948a070f4a969af4f017219f7c55373f0619c243c893e", func := "shibboleth/shibbolethlaw03.PercentUpper", spec := "percentUpper", apart := false, narrowed := true }
def PercentUpperUptoSaid : Prop := percentUpperUptoRow.holds Try.pinned (OpenSpec.upto percentUpperSpec)

/-- 'shibbolethlaw03.PercentJoins', WHERE WHAT IT READS IS OF BULK AT MOST 1048576: true; the input reads as it did. -/
def percentJoinsUptoRow : OpenClaim := { program := "ytmgfhlkpmacehaa", sum := "19295d4e7c9efff5df7948a070f4a969af4f017219f7c55373f0619c243c893e", func := "shibboleth/shibbolethlaw03.PercentJoins", spec := "percentJoins", apart := false, narrowed := true }
def PercentJoinsUptoSaid : Prop := percentJoinsUptoRow.holds Try.pinned (OpenSpec.upto percentJoinsSpec)

/-- 'shibbolethlaw03.PercentDigits', WHERE WHAT IT READS IS OF BULK AT MOST 1048576: true; the input reads as it did. -/
def percentDigitsUptoRow : OpenClaim := { program := "ytmgfhlkpmacehaa", sum := "19295d4e7c9efff5df7948a070f4a969af4f017219f7c55373f0619c243c893e", func := "shibboleth/shibbolethlaw03.PercentDigits", spec := "percentDigits", apart := false, narrowed := true }
def PercentDigitsUptoSaid : Prop := percentDigitsUptoRow.holds Try.pinned (OpenSpec.upto percentDigitsSpec)

/-- 'shibbolethlaw03.PercentKnown', WHERE WHAT IT READS IS OF BULK AT MOST 1048576: true; the input reads as it did. -/
def percentKnownUptoRow : OpenClaim := { program := "ytmgfhlkpmacehaa", sum := "19295d4e7c9efff5df7948a070f4a969af4f017219f7c55373f0619c243c893e", func := "shibboleth/shibbolethlaw03.PercentKnown", spec := "percentKnown", apart := false, narrowed := true }
def PercentKnownUptoSaid : Prop := percentKnownUptoRow.holds Try.pinned (OpenSpec.upto percentKnownSpec)

end Rows
end Go.Proofs.Ytmgfhlkpmacehaa
