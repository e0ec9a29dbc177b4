/-
  TallyOrder, as its row calls it.
-/
import Derived.Test.YtedllapajgcfeaaDoorOrW
import Derived.Test.YtedllapajgcfeaaDoorRow5f
namespace Go.Proofs.YtedllapajgcfeaaDoor
open Go.RowKit
theorem order_row (a : Nat) (ha : (Lit.float .f64 a).wf = true) (b : Nat) (hb : (Lit.float .f64 b).wf = true) (A : Option Addr) (c : Nat) (l : List Nat) (h64 : Fin64 l) (w : World) (hA : ArgF w A l) (hT : Tb w) :
    Calls Tryd.prog 4 #[.float .f64 a, .float .f64 b, .slice A l.length c] w fun e w' => e = .returned (.bool true) ∧ Below w.heap.size w w' := order_any a b (wf_flt ha) (wf_flt hb) A c l h64 w hA hT
end Go.Proofs.YtedllapajgcfeaaDoor
