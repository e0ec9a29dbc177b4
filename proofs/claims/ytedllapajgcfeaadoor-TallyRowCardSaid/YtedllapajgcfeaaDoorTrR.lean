/-
  TallyRow, as its row calls it.
-/
import Derived.Test.YtedllapajgcfeaaDoorTrw
import Derived.Test.YtedllapajgcfeaaDoorRow5f
namespace Go.Proofs.YtedllapajgcfeaaDoor
open Go.RowKit
theorem row_row (A : Option Addr) (c : Nat) (l : List Nat) (h64 : Fin64 l) (t : Int) (ht : IntKind.u8.min ≤ t ∧ t ≤ IntKind.u8.max) (w : World) (hA : ArgF w A l) (hT : Tb w) :
    Calls Tryd.prog 3 #[.slice A l.length c, .int .u8 t] w fun e w' => e = .returned (.bool true) ∧ Below w.heap.size w w' := by
  have h0 : (0 : Int) ≤ t := ht.1
  have h1 : t ≤ 255 := ht.2
  obtain ⟨n, rfl⟩ := Int.eq_ofNat_of_zero_le h0
  exact row_any A c l h64 n (by omega) w hA hT
end Go.Proofs.YtedllapajgcfeaaDoor
