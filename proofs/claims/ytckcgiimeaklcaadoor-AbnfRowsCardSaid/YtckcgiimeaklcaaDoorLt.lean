/-
  alike; the table's literal: walked.
-/
import Derived.Test.YtckcgiimeaklcaaDoorPl
import Derived.BigQuiet
namespace Go.Proofs.YtckcgiimeaklcaaDoor
set_option linter.unusedVariables false
set_option linter.unusedSimpArgs false
open Go.RowKit Go.Proofs.YtckcgiimeaklcaaDoorW.PrintWords

set_option maxRecDepth 100000 in
set_option maxHeartbeats 1600000 in
theorem alike_any (a b : UInt8) (w : World) : Calls Tryd.prog 43 #[.int .u8 a.toNat, .int .u8 b.toNat] w fun e w' => e = .returned (.bool (Ab.alk a b)) ∧ w' = w := by
  have t1 := u8_beq a b
  have b1 := bor_u8 a
  have b2 := bor_u8 b
  have t2 : (((a.toNat ||| 32 : Nat) : Int) == ((b.toNat ||| 32 : Nat) : Int)) = ((a ||| 32) == (b ||| 32)) := by
    have := u8_beq (a ||| 32) (b ||| 32)
    rw [UInt8.toNat_or, UInt8.toNat_or] at this
    exact this
  cases h1 : a == b
  · rw [h1] at t1
    cases h2 : Ab.letter a
    · have HE : Hid (Ab.alk a b = false) := Lib.hid (by simp [Ab.alk, h1, h2])
      have H2 := Lib.hid h2
      clear h1 h2
      rw [HE.out]
      go_enter Tryd.func43, Tryd.ntmps43
      go_wp2_with fail
      refine (letter_any a _).mono ?_
      rintro e w1 ⟨rfl, rfl⟩
      rw [H2.out]
      go_wp2_with fail
      go_ret
      exact ⟨rfl, rfl⟩
    · have HE : Hid (Ab.alk a b = ((a ||| 32) == (b ||| 32))) := Lib.hid (by simp [Ab.alk, h1, h2])
      have H2 := Lib.hid h2
      clear h1 h2
      rw [HE.out]
      generalize ((a ||| 32) == (b ||| 32)) = z at *
      go_enter Tryd.func43, Tryd.ntmps43
      go_wp2_with fail
      refine (letter_any a _).mono ?_
      rintro e w1 ⟨rfl, rfl⟩
      rw [H2.out]
      go_wp2_with fail
      go_ret
      exact ⟨rfl, rfl⟩
  · rw [h1] at t1
    have HE : Hid (Ab.alk a b = true) := Lib.hid (by simp [Ab.alk, h1])
    clear h1
    rw [HE.out]
    go_enter Tryd.func43, Tryd.ntmps43
    go_wp2_with fail
    go_ret
    exact ⟨rfl, rfl⟩
set_option maxRecDepth 100000 in
set_option maxHeartbeats 3200000 in
theorem literalat_any (wd t : List UInt8) (gt i : Nat) (w : World) (hw : wd.length ≤ 120) (hi : i ≤ wd.length) (ht : t.length ≤ 8000) (hc : w.cell? ⟨gt, 1, none⟩ = some (.string ⟨wd.toArray⟩)) :
    Calls Tryd.prog 28 #[.pointer (some ⟨gt, 0, none⟩), .string ⟨t.toArray⟩, .int .i64 i] w fun e w' => ∃ b : Bool, e = .returned (.bool b) ∧ (b = true ↔ Ab.LitAt wd t i) ∧ Below w.heap.size w w' := by
  have W1 : IntKind.i64.wrap ((wd.length : Int) - (i : Int)) = (wd.length : Int) - (i : Int) := IntWalk.i64_in _ (by omega)
  by_cases hl : i + t.length ≤ wd.length
  · have t1 : decide ((wd.length : Int) - (i : Int) < (t.length : Int)) = false := decide_eq_false (by omega)
    go_enter Tryd.func28, Tryd.ntmps28
    go_wp2_with fail
    go_loopw [20, 7] (fun kv _ wr => ∃ k : Nat, kv = .int .i64 k ∧ k ≤ t.length ∧ Hid (∀ j, j < k → Ab.alk (t.getD j 0) (wd.getD (i + j) 0) = true) ∧ Below w.heap.size w wr) (fun kv _ _ => t.length - (RowKit.intOf kv).toNat)
    case atStart => exact ⟨0, rfl, by omega, Lib.hid (fun j hj => by omega), Below.refl _ _⟩
    case round =>
      obtain ⟨k, rfl, hk, HA, HB⟩ := hrel
      have hc2 := pw_cell_below HB hc
      by_cases hlt : k < t.length
      · obtain ⟨c, hcc⟩ : ∃ c, t[k] = c := ⟨_, rfl⟩
        obtain ⟨q, hq⟩ : ∃ q, i + k = q := ⟨_, rfl⟩
        have hq2 : q < wd.length := by omega
        obtain ⟨d, hdd⟩ : ∃ d, wd[q] = d := ⟨_, rfl⟩
        have eq : (i : Int) + (k : Int) = (q : Int) := by omega
        have wq : IntKind.i64.wrap (q : Int) = (q : Int) := IntWalk.i64_in _ (by omega)
        have wk0 : IntKind.i64.wrap (k : Int) = (k : Int) := IntWalk.i64_in _ (by omega)
        have wk1 : IntKind.i64.wrap ((k : Int) + 1) = (k : Int) + 1 := IntWalk.i64_in _ (by omega)
        have e1 : decide ((k : Int) < (t.length : Int)) = true := decide_eq_true (by omega)
        have e2 : (k : Int) < t.length := by omega
        have e3 : (0 : Int) ≤ (k : Int) := by omega
        have e4 : (q : Int) < wd.length := by omega
        have e5 : (0 : Int) ≤ (q : Int) := by omega
        have HCD : Hid (t.getD k 0 = c ∧ wd.getD (i + k) 0 = d) := Lib.hid ⟨by rw [List.getD_eq_getElem?_getD, List.getElem?_eq_getElem hlt, hcc]; rfl, by rw [hq, List.getD_eq_getElem?_getD, List.getElem?_eq_getElem hq2, hdd]; rfl⟩
        have HKL := Lib.hid hlt
        cases hal : Ab.alk c d
        · have HAL := Lib.hid hal
          have HCL := Lib.hid (fun (z : World) => (alike_any c d z).mono (R' := fun e w' => e = .returned (.bool false) ∧ w' = z) (fun e w' h => ⟨by rw [← hal]; exact h.1, h.2⟩))
          clear hal
          go_upto_region 6 with (fail)
          go_quiet ((go_at_call 43; exact Calls.quiet_of_same (HCL.out _)))
          go_wp2_with fail
          go_ret
          refine ⟨false, rfl, ⟨fun h => Bool.noConfusion h, fun h => ?_⟩, by first | exact HB | exact pw_below_drewN HB _ | exact HB.drew⟩
          have := h.2 k HKL.out
          rw [HCD.out.1, HCD.out.2, HAL.out] at this
          cases this
        · have HAL := Lib.hid hal
          have HCL := Lib.hid (fun (z : World) => (alike_any c d z).mono (R' := fun e w' => e = .returned (.bool true) ∧ w' = z) (fun e w' h => ⟨by rw [← hal]; exact h.1, h.2⟩))
          clear hal
          go_upto_region 6 with (fail)
          go_quiet ((go_at_call 43; exact Calls.quiet_of_same (HCL.out _)))
          go_wp2_with fail
          go_roundw
          case rel =>
            refine ⟨k + 1, by go_num, by omega, Lib.hid (fun j hj => ?_), by first | exact HB | exact pw_below_drewN HB _ | exact HB.drew⟩
            by_cases hjk : j = k
            · subst hjk
              rw [HCD.out.1, HCD.out.2, HAL.out]
            · exact HA.out j (by omega)
          case measure => simp [RowKit.intOf] <;> omega
      · obtain rfl : k = t.length := by omega
        have e1 : decide ((t.length : Int) < (t.length : Int)) = false := decide_eq_false (by omega)
        have HL := Lib.hid hl
        go_wp2_with fail
        go_ret
        exact ⟨true, rfl, ⟨fun _ => ⟨HL.out, HA.out⟩, fun _ => rfl⟩, HB⟩
  · have t1 : decide ((wd.length : Int) - (i : Int) < (t.length : Int)) = true := decide_eq_true (by omega)
    have HL := Lib.hid hl
    clear hl
    go_enter Tryd.func28, Tryd.ntmps28
    go_wp2_with fail
    go_ret
    exact ⟨false, rfl, ⟨fun h => Bool.noConfusion h, fun h => absurd h.1 HL.out⟩, Below.refl _ _⟩
end Go.Proofs.YtckcgiimeaklcaaDoor
