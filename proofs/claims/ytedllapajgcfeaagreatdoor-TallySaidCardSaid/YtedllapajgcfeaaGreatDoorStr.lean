/-
  Strings as lists of bytes: small rules for the walk.
-/
import Derived.WalkKit
import Derived.Lib.Strings
import Derived.Laws.BytesArg
namespace Go.Proofs.YtedllapajgcfeaaGreatDoor
open Go.RowKit

theorem mk_get (l : List UInt8) (i : Nat) (h : i < (ByteArray.mk l.toArray).size) : (ByteArray.mk l.toArray)[i]'h = l[i]'(by simpa [ByteArray.size] using h) := rfl
theorem take_drop_all (l : List UInt8) (k : Nat) : (l.drop k).take (l.length - k) = l.drop k := List.take_of_length_le (by simp)
attribute [go_sem] take_drop_all
theorem u8_beq (c d : UInt8) : ((c.toNat : Int) == (d.toNat : Int)) = (c == d) := by
  rw [Bool.eq_iff_iff]
  simp only [beq_iff_eq]
  constructor
  · intro h
    apply UInt8.toNat_inj.mp
    omega
  · intro h
    rw [h]
theorem b37 (c : UInt8) : ((c.toNat : Int) == 37) = (c == 37) := u8_beq c 37
theorem ret_bool {a b : Bool} (h : a = b) : Ending.returned (.bool a) = .returned (.bool b) := by rw [h]
theorem ret_str {a b : List UInt8} (h : a = b) : Ending.returned (.string ⟨a.toArray⟩) = .returned (.string ⟨b.toArray⟩) := by rw [h]
theorem ret_int {k : IntKind} {a b : Int} (h : a = b) : Ending.returned (.int k a) = .returned (.int k b) := by rw [h]
attribute [go_sem] mk_get ByteArray.extract_mk ByteArray.mk_append_mk ByteArray.toList_mk
theorem str_eq (s : ByteArray) : s = ⟨s.data.toList.toArray⟩ := (Lib.mk_data s).symm
theorem take_all {l : List UInt8} {n : Nat} (h : l.length ≤ n) : l.take n = l := List.take_of_length_le h

def bts (l : List UInt8) : List Int := l.map fun b => (b.toNat : Int)
theorem bts_snoc (l : List UInt8) (b : UInt8) : bts (l ++ [b]) = bts l ++ [(b.toNat : Int)] := by simp [bts]
theorem bts_append (l m : List UInt8) : bts (l ++ m) = bts l ++ bts m := by simp [bts]
theorem bts_len (l : List UInt8) : (bts l).length = l.length := by simp [bts]
theorem strOf_bts (l : List UInt8) : strOfNums (bts l) = ⟨l.toArray⟩ := by
  unfold strOfNums bts
  congr 2
  rw [List.map_map]
  conv => rhs; rw [← List.map_id l]
  apply List.map_congr_left
  intro a _
  simp
/-- How long the string in a slot is: for a loop's measure. -/
def szOf : Value → Nat
  | .string b => b.size
  | _ => 0
theorem szOf_str (l : List UInt8) : szOf (.string ⟨l.toArray⟩) = l.length := rfl
theorem ret2_str_bool {x y : List UInt8} {a b : Bool} (h : x = y) (g : a = b) : Ending.returned (.tuple #[.string ⟨x.toArray⟩, .bool a]) = .returned (.tuple #[.string ⟨y.toArray⟩, .bool b]) := by rw [h, g]

theorem bthen {w w1 w2 : World} (h1 : Below w.heap.size w w1) (h2 : Below w1.heap.size w1 w2) : Below w.heap.size w w2 := h1.trans (h2.mono h1.size)
theorem int_u8_eq (c d : UInt8) (h : (c.toNat : Int) = (d.toNat : Int)) : c = d := UInt8.toNat_inj.mp (by omega)
theorem beq_t {a b : Int} (h : a = b) : (a == b) = true := beq_iff_eq.2 h
theorem beq_f {a b : Int} (h : a ≠ b) : (a == b) = false := beq_eq_false_iff_ne.2 h
theorem bne_t {a b : Int} (h : a ≠ b) : (a != b) = true := bne_iff_ne.2 h
theorem bne_f {a b : Int} (h : a = b) : (a != b) = false := by rw [h]; simp
theorem u8_ne {c d : UInt8} (h : c ≠ d) : (c.toNat : Int) ≠ (d.toNat : Int) := fun e => h (int_u8_eq c d e)
end Go.Proofs.YtedllapajgcfeaaGreatDoor
