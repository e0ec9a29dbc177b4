/-
  internal/strconv at the number 0.1: what the scaling by powers of ten computes there.
-/
import Derived.Test.YtedllapajgcfeaaGreatDoorShf
import Derived.Test.YtedllapajgcfeaaGreatDoorCmp
namespace Go.Proofs.YtedllapajgcfeaaGreatDoor
open Go.RowKit Go.Proofs.YtedllapajgcfeaaGreatDoorW.PrintWords

theorem mul_1 (w : World) : Calls Tryz.prog 130 #[.int .u64 14757395258967641088, .int .u64 12800000000000000000] w fun e w' => e = .returned (.tuple #[.int .u64 10239999999999999857, .int .u64 16444402540465881088]) ∧ w = w' :=
  (Tryz.bits_Mul64 14757395258967641088 12800000000000000000 (by decide) (by decide) w).mono (by rintro e w' ⟨rfl, rfl⟩; exact ⟨rfl, rfl⟩)
theorem mul_2 (w : World) : Calls Tryz.prog 130 #[.int .u64 14757395258967643136, .int .u64 12800000000000000000] w fun e w' => e = .returned (.tuple #[.int .u64 10240000000000001278, .int .u64 18021073799193034752]) ∧ w = w' :=
  (Tryz.bits_Mul64 14757395258967643136 12800000000000000000 (by decide) (by decide) w).mono (by rintro e w' ⟨rfl, rfl⟩; exact ⟨rfl, rfl⟩)
theorem uscale_1 (g : Nat) (w : World) (c0 : w.cell? ⟨g, 0, none⟩ = some (.int .u64 12800000000000000000)) (c2 : w.cell? ⟨g, 2, none⟩ = some (.int .i64 8)) : Calls Tryz.prog 100 #[.int .u64 14757395258967641088, .pointer (some ⟨g, 0, none⟩)] w fun e w' => e = .returned (.int .u64 39999999999999999) ∧ w = w' := by
  have b1 : bits .and .i64 8 63 = 8 := by decide +kernel
  have b4 : bits .or .u64 39999999999999999 1 = 39999999999999999 := by decide +kernel
  go_enter Tryz.func100, Tryz.ntmps100
  go_wp2_with fail
  refine (mul_1 _).mono ?_
  rintro e w1 ⟨rfl, rfl⟩
  go_wp2_with fail
  go_ret
  exact ⟨rfl, rfl⟩
theorem uscale_2 (g : Nat) (w : World) (c0 : w.cell? ⟨g, 0, none⟩ = some (.int .u64 12800000000000000000)) (c2 : w.cell? ⟨g, 2, none⟩ = some (.int .i64 8)) : Calls Tryz.prog 100 #[.int .u64 14757395258967643136, .pointer (some ⟨g, 0, none⟩)] w fun e w' => e = .returned (.int .u64 40000000000000005) ∧ w = w' := by
  have b1 : bits .and .i64 8 63 = 8 := by decide +kernel
  have b4 : bits .or .u64 40000000000000004 1 = 40000000000000005 := by decide +kernel
  go_enter Tryz.func100, Tryz.ntmps100
  go_wp2_with fail
  refine (mul_2 _).mono ?_
  rintro e w1 ⟨rfl, rfl⟩
  go_wp2_with fail
  go_ret
  exact ⟨rfl, rfl⟩
theorem nudge_1 (w : World) : Calls Tryz.prog 101 #[.int .u64 39999999999999999, .int .i64 0] w fun e w' => e = .returned (.int .u64 39999999999999999) ∧ w = w' := by
  go_enter Tryz.func101, Tryz.ntmps101
  go_wp2_with fail
  go_ret
  exact ⟨rfl, rfl⟩
theorem nudge_2 (w : World) : Calls Tryz.prog 101 #[.int .u64 40000000000000005, .int .i64 0] w fun e w' => e = .returned (.int .u64 40000000000000005) ∧ w = w' := by
  go_enter Tryz.func101, Tryz.ntmps101
  go_wp2_with fail
  go_ret
  exact ⟨rfl, rfl⟩
theorem ceil_1 (w : World) : Calls Tryz.prog 102 #[.int .u64 39999999999999999] w fun e w' => e = .returned (.int .u64 10000000000000000) ∧ w = w' := by
  go_enter Tryz.func102, Tryz.ntmps102
  go_wp2_with fail
  go_ret
  exact ⟨rfl, rfl⟩
theorem floor_1 (w : World) : Calls Tryz.prog 103 #[.int .u64 40000000000000005] w fun e w' => e = .returned (.int .u64 10000000000000001) ∧ w = w' := by
  go_enter Tryz.func103, Tryz.ntmps103
  go_wp2_with fail
  go_ret
  exact ⟨rfl, rfl⟩
theorem log10_1 (w : World) : Calls Tryz.prog 65 #[.int .i64 (-56)] w fun e w' => e = .returned (.int .i64 (-17)) ∧ w = w' := by
  go_enter Tryz.func65, Tryz.ntmps65
  go_wp2_with fail
  go_ret
  exact ⟨rfl, rfl⟩
theorem log2_1 (w : World) : Calls Tryz.prog 99 #[.int .i64 17] w fun e w' => e = .returned (.int .i64 56) ∧ w = w' := by
  go_enter Tryz.func99, Tryz.ntmps99
  go_wp2_with fail
  go_ret
  exact ⟨rfl, rfl⟩
end Go.Proofs.YtedllapajgcfeaaGreatDoor
