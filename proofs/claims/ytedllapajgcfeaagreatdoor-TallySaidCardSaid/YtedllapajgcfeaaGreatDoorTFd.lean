/-
  internal/strconv.setDigits at the number 0.1: its digits are 10 to the power of 15, of which the zeros are struck.
-/
import Derived.Test.YtedllapajgcfeaaGreatDoorTFc
import Derived.Lib.OwnBridge
namespace Go.Proofs.YtedllapajgcfeaaGreatDoor
open Go.RowKit Go.Sort Go.Lib Go.Proofs.YtedllapajgcfeaaGreatDoorW.PrintWords

def dig0 : Array UInt8 := Array.replicate 16 0
theorem dg_0 : dg 1000000000000000 15 = 49 := by decide +kernel
theorem dg_1 : ∀ j : Fin 16, 1 ≤ j.val → dg 1000000000000000 (15 - j.val) = 48 := by decide +kernel
theorem fmt_1 (g : Nat) (w : World) (hH : Holds (fun (b : UInt8) => Value.int .u8 (b.toNat : Int)) w g 0 dig0) : Calls Tryz.prog 105 #[.slice (some ⟨g, 0, none⟩) 16 32, .int .u64 1000000000000000] w fun e w' => e = .returned (.tuple #[]) ∧ w'.cell? ⟨g, 0, none⟩ = some (.int .u8 49) ∧ (∀ j, 1 ≤ j → j < 16 → w'.cell? ⟨g, j, none⟩ = some (.int .u8 48)) ∧ Below g w w' := by
  have := Tryz.internal_strconv_formatBase10 g 0 32 1000000000000000 dig0 w hH (by decide) (by decide) (by decide)
  refine Calls.mono this ?_
  rintro e w' ⟨rfl, n, v', dk, rfl, hF⟩
  have hs : dk.size = dig0.size := hF.size
  have hc := fun j (hj : j < 16) => cell?_putRow (fun (b : UInt8) => Value.int .u8 (b.toNat : Int)) w g 0 dig0 dk hH hs j (by rw [hs]; exact hj)
  refine ⟨rfl, ?_, ?_, below_putRow (q := n) (Below.refl g w) (Nat.le_refl g)⟩
  · refine (hc 0 (by omega)).trans ?_
    rw [hF.done 0 (Nat.le_refl _) (by decide)]
    show some (Value.int .u8 ((dg 1000000000000000 15).toNat : Int)) = _
    rw [dg_0]; rfl
  · intro j h1 h2
    have := hc j h2
    rw [Nat.zero_add] at this
    refine Eq.trans this ?_
    rw [hF.done j (Nat.zero_le _) h2]
    show some (Value.int .u8 ((dg 1000000000000000 (15 - j)).toNat : Int)) = _
    rw [dg_1 ⟨j, h2⟩ h1]; rfl
set_option maxHeartbeats 1600000 in
theorem setD_1 (g : Nat) (w : World) (hH : Holds (fun (b : UInt8) => Value.int .u8 (b.toNat : Int)) w g 0 dig0) : Calls Tryz.prog 63 #[.slice (some ⟨g, 0, none⟩) 32 32, .int .u64 1000000000000000, .int .i64 (-16), .int .i64 16] w fun e w' => e = .returned (.tuple #[.int .i64 0, .int .i64 1]) ∧ w'.cell? ⟨g, 0, none⟩ = some (.int .u8 49) ∧ Below g w w' := by
  have HF := Lib.hid (fmt_1 g w hH)
  clear hH
  go_enter Tryz.func63, Tryz.ntmps63
  go_wp2_with fail
  refine (HF.out).mono ?_
  rintro e w1 ⟨rfl, C0, C1, B1⟩
  replace C1 := Lib.hid C1
  replace B1 := Lib.hid B1
  clear HF
  go_wp2_with fail
  go_loopw [3] (fun i wr => ∃ k : Nat, k < 16 ∧ i = .int .i64 (k + 1) ∧ wr = w1) (fun i _ => (RowKit.intOf i).toNat)
  case atStart => exact ⟨15, by omega, rfl, rfl⟩
  case round =>
    obtain ⟨k, hk, rfl, rfl⟩ := hrel
    have i1 : (0 : Int) ≤ (k : Int) := by omega
    have i2 : (k : Int) < 32 := by omega
    have i3 : (0 : Int) < (k : Int) + 1 := by omega
    have i4 : (k : Int) + 1 ≤ 16 := by omega
    by_cases h0 : k = 0
    · subst h0
      clear C1
      go_wp2_with fail
      go_ret2
      exact ⟨rfl, C0, B1.out⟩
    · have C := C1.out k (by omega) hk
      obtain ⟨m, rfl⟩ : ∃ m, k = m + 1 := ⟨k - 1, by omega⟩
      go_wp2_with fail
      go_roundw
      case rel => exact ⟨m, by omega, by go_num, trivial⟩
      case measure => simp [RowKit.intOf] <;> omega
end Go.Proofs.YtedllapajgcfeaaGreatDoor
