/-
  internal/strconv.ftoa64 at the number 0.1.
-/
import Derived.Test.YtedllapajgcfeaaDoorTFe
namespace Go.Proofs.YtedllapajgcfeaaDoor
open Go.RowKit Go.Proofs.YtedllapajgcfeaaDoorW.PrintWords

theorem run_bits2 (b : Nat) (w : World) : (callFunc 59 #[.float .f64 b]).run Tryd.prog w = .ok (.value (.int .u64 b)) w := by
  rw [run_callFunc_extern Tryd.func59 (by kernel_rfl) (by kernel_rfl) (by kernel_rfl) (e := Extern.MathFloatBits.float64bits) (by kernel_rfl)]
  rfl
attribute [go_sem] run_bits2
theorem len_1 (w : World) : Calls Tryd.prog 50 #[.int .u64 7205759403792794] w fun e w' => e = .returned (.int .i64 53) ∧ w = w' :=
  (Tryd.bits_Len64 7205759403792794 w (by decide) (by decide)).mono (by rintro e w' ⟨rfl, rfl⟩; refine ⟨?_, rfl⟩; rw [show Lib.bitLen (Int.toNat 7205759403792794) = 53 by decide +kernel]; rfl)
theorem numd_1 (w : World) (htab : Lib.TabIs Tryd.prog w "internal/strconv.uint64pow10" .u64 Lib.pow10Tab) : Calls Tryd.prog 65 #[.int .u64 1000000000000000] w fun e w' => e = .returned (.int .i64 16) ∧ w = w' :=
  (Tryd.internal_strconv_numDigits 1000000000000000 (by decide) (by decide) w htab).mono (by rintro e w' ⟨rfl, rfl⟩; refine ⟨?_, rfl⟩; rw [show Lib.nDigits 1000000000000000 = 16 by decide +kernel]; rfl)
end Go.Proofs.YtedllapajgcfeaaDoor
