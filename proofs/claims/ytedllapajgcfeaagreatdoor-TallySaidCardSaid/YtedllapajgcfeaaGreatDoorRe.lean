/-
  What readFloat tells of a text, and which texts are read as a float64. No program in sight.
-/
import Derived.Test.YtedllapajgcfeaaGreatDoorRd
import Derived.Test.YtedllapajgcfeaaGreatDoorNea
namespace Go.Proofs.YtedllapajgcfeaaGreatDoor
set_option linter.unusedVariables false
set_option linter.unusedSimpArgs false

/-- An exponent's text: none, or e, a sign and two or three digits. -/
def ev (ex : List UInt8) : Nat := ex.foldl (fun a c => a * 10 + (c.toNat - 48)) 0
structure Xe (up : Bool) (ex : List UInt8) : Prop where
  lo : 2 ≤ ex.length
  hi : ex.length ≤ 3
  dg : ∀ j (h : j < ex.length), Rf.Dg ex[j]
def xT (X : Option (Bool × List UInt8)) : List UInt8 := match X with
  | none => []
  | some (up, ex) => 101 :: (if up then 43 else 45) :: ex
def xV (X : Option (Bool × List UInt8)) : Int := match X with
  | none => 0
  | some (up, ex) => if up then (ev ex : Int) else -(ev ex : Int)
def sgB (neg : Bool) : List UInt8 := if neg then [45] else []
def expOf (s : Rf.S) (x : Int) : Int := if s.mant = 0 then 0 else (if s.dot then s.dp else (s.nd : Int)) + x - s.nd
theorem sgB_len (neg : Bool) : (sgB neg).length = if neg then 1 else 0 := by cases neg <;> rfl
/-- A text that is read as a float64. -/
structure Tx (neg : Bool) (l : List UInt8) (r : Nat) : Prop where
  ex : ∃ (M : List UInt8) (X : Option (Bool × List UInt8)), Rf.Mt M ∧ 1 ≤ M.length ∧ (∀ up ex, X = some (up, ex) → Xe up ex ∧ (Rf.rd M).mant ≠ 0) ∧ (Rf.rd M).dig = true ∧
    (∀ h : 0 < M.length, M[0] = 48 → (M.length + (xT X).length ≤ 2 ∨ ∃ h1 : 1 < M.length, M[1] = 46)) ∧ (∀ h : 0 < M.length, Rf.Dg M[0]) ∧ l = sgB neg ++ M ++ xT X ∧
    ((((Rf.rd M).mant = 0 ∧ r = 0)) ∨ (∃ m E, Sc.Fin m E ∧ r = Sc.rg m E ∧ 0 < (Rf.rd M).mant ∧ (Rf.rd M).mant < 2 ^ 57 ∧ -345 ≤ expOf (Rf.rd M) (xV X) ∧ expOf (Rf.rd M) (xV X) ≤ 310 ∧ Sc.In m E (Rf.rd M).mant (expOf (Rf.rd M) (xV X))))
end Go.Proofs.YtedllapajgcfeaaGreatDoor
