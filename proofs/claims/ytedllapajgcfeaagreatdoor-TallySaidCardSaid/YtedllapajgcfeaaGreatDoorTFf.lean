/-
  internal/strconv.ftoa64 at the number 0.1.
-/
import Derived.Test.YtedllapajgcfeaaGreatDoorTFe
namespace Go.Proofs.YtedllapajgcfeaaGreatDoor
open Go.RowKit Go.Proofs.YtedllapajgcfeaaGreatDoorW.PrintWords

theorem run_bits2 (b : Nat) (w : World) : (callFunc 57 #[.float .f64 b]).run Tryz.prog w = .ok (.value (.int .u64 b)) w := by
  rw [run_callFunc_extern Tryz.func57 (by kernel_rfl) (by kernel_rfl) (by kernel_rfl) (e := Extern.MathFloatBits.float64bits) (by kernel_rfl)]
  rfl
attribute [go_sem] run_bits2
theorem len_1 (w : World) : Calls Tryz.prog 61 #[.int .u64 7205759403792794] w fun e w' => e = .returned (.int .i64 53) ∧ w = w' :=
  (Tryz.bits_Len64 7205759403792794 w (by decide) (by decide)).mono (by rintro e w' ⟨rfl, rfl⟩; refine ⟨?_, rfl⟩; rw [show Lib.bitLen (Int.toNat 7205759403792794) = 53 by decide +kernel]; rfl)
theorem numd_1 (w : World) (htab : Lib.TabIs Tryz.prog w "internal/strconv.uint64pow10" .u64 Lib.pow10Tab) : Calls Tryz.prog 64 #[.int .u64 1000000000000000] w fun e w' => e = .returned (.int .i64 16) ∧ w = w' :=
  (Tryz.internal_strconv_numDigits 1000000000000000 (by decide) (by decide) w htab).mono (by rintro e w' ⟨rfl, rfl⟩; refine ⟨?_, rfl⟩; rw [show Lib.nDigits 1000000000000000 = 16 by decide +kernel]; rfl)
end Go.Proofs.YtedllapajgcfeaaGreatDoor
