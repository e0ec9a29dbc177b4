/-
  TallyTells, as its row calls it.
-/
import Derived.Test.YtedllapajgcfeaaGreatDoorTlw
import Derived.Test.YtedllapajgcfeaaGreatDoorRow5f
namespace Go.Proofs.YtedllapajgcfeaaGreatDoor
open Go.RowKit
theorem tells_row (A : Option Addr) (c : Nat) (l : List Nat) (h64 : Fin64 l) (w : World) (hA : ArgF w A l) (hT : Tb w) :
    Calls Tryz.prog 4 #[.slice A l.length c] w fun e w' => e = .returned (.bool true) ∧ Below w.heap.size w w' := tells_any A c l h64 w hA hT
end Go.Proofs.YtedllapajgcfeaaGreatDoor
