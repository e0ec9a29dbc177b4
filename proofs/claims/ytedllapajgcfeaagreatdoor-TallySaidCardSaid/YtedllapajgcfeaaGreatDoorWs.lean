/-
  internal/strconv.special at a text that begins with a digit, or a minus sign and a digit: walked.
-/
import Derived.Test.YtedllapajgcfeaaGreatDoorStr
import Derived.Test.YtedllapajgcfeaaGreatDoorRd
import Derived.Test.YtedllapajgcfeaaGreatDoorWb
import Derived.OwnWalk
namespace Go.Proofs.YtedllapajgcfeaaGreatDoor
set_option linter.unusedVariables false
set_option linter.unusedSimpArgs false
open Go.RowKit Go.Proofs.YtedllapajgcfeaaGreatDoorW.PrintWords

set_option maxRecDepth 100000 in
set_option maxHeartbeats 3200000 in
theorem common_digit (c : UInt8) (t : List UInt8) (hc : Rf.Dg c) (hl : t.length ≤ 100) (w : World) : Calls Tryz.prog 115 #[.string ⟨(c :: t).toArray⟩, .string ⟨#[105, 110, 102, 105, 110, 105, 116, 121]⟩] w fun e w' => e = .returned (.int .i64 0) ∧ ∃ n, w' = w.drewN n := by
  unfold Rf.Dg at hc
  have h8 : min (8 : Int) ((t.length : Int) + 1) = min 8 ((t.length : Int) + 1) := rfl
  have k1 : decide ((65 : Int) ≤ (c.toNat : Int)) = false := by simp; omega
  have k2 : ((c.toNat : Int) != 105) = true := by simp; omega
  have k3 : decide ((0 : Int) < min 8 ((t.length : Int) + 1)) = true := decide_eq_true (by omega)
  have k4 : (0 : Int) < min 8 ((t.length : Int) + 1) := by omega
  clear h8
  go_enter Tryz.func115, Tryz.ntmps115
  go_wp2_with fail
  go_loopw [6] (fun i wr => i = .int .i64 0 ∧ w = wr) (fun _ _ => 0)
  case atStart => exact ⟨rfl, rfl⟩
  case round =>
    obtain ⟨rfl, rfl⟩ := hrel
    first
    | (go_wp2_with fail
       go_ret
       exact ⟨rfl, 0, rfl⟩)
    | (go_wp2_with fail
       go_quiet (fail)
       go_wp2_with fail
       go_ret
       exact ⟨rfl, _, rfl⟩)
theorem special_any (neg : Bool) (c : UInt8) (t : List UInt8) (hc : Rf.Dg c) (hl : t.length ≤ 100) (w : World) : Calls Tryz.prog 71 #[.string ⟨((if neg then [45] else []) ++ c :: t).toArray⟩] w fun e w' => e = .returned (.tuple #[.float .f64 0, .int .i64 0, .bool false]) ∧ ∃ n, w' = w.drewN n := by
  have HC := Lib.hid (common_digit c t hc hl)
  unfold Rf.Dg at hc
  cases neg
  · have k1 : ((c.toNat : Int) == 43) = false := by simp; omega
    have k2 : ((c.toNat : Int) == 45) = false := by simp; omega
    have k3 : ((c.toNat : Int) == 105) = false := by simp; omega
    have k4 : ((c.toNat : Int) == 73) = false := by simp; omega
    have k5 : ((c.toNat : Int) == 110) = false := by simp; omega
    have k6 : ((c.toNat : Int) == 78) = false := by simp; omega
    go_enter Tryz.func71, Tryz.ntmps71
    go_wp2_with fail
    go_ret3
    exact ⟨rfl, 0, rfl⟩
  · go_enter Tryz.func71, Tryz.ntmps71
    go_wp2_with fail
    refine (HC.out _).mono ?_
    rintro e w1 ⟨rfl, n1, rfl⟩
    first
    | (go_wp2_with fail
       go_ret3
       exact ⟨rfl, n1, rfl⟩)
    | (go_wp2_with fail
       go_quiet (fail)
       go_wp2_with fail
       go_ret3
       exact ⟨rfl, _, rfl⟩)
end Go.Proofs.YtedllapajgcfeaaGreatDoor
