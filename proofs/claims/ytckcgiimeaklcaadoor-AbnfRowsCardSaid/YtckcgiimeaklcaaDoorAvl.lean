/-
  strings.IndexByte in a list's words; percent.Value.
-/
import Derived.Test.YtckcgiimeaklcaaDoorAx1
import Derived.Test.YtckcgiimeaklcaaDoorShf
namespace Go.Proofs.YtckcgiimeaklcaaDoor
set_option linter.unusedVariables false
set_option linter.unusedSimpArgs false
open Go.RowKit Go.Proofs.YtckcgiimeaklcaaDoorW.PrintWords

theorem rixb_neg (l : List UInt8) (c : UInt8) : -1 ≤ Lib.indexByte l c ∧ (decide (0 ≤ Lib.indexByte l c) = l.contains c) := by
  induction l with
  | nil => exact ⟨Int.le_refl _, rfl⟩
  | cons b l ih =>
    obtain ⟨h1, h2⟩ := ih
    rw [Lib.indexByte, List.contains_cons]
    by_cases hb : b = c
    · subst hb
      simp
    · have e1 : (b == c) = false := by simpa using hb
      have e2 : (c == b) = false := by simpa using fun e : c = b => hb e.symm
      rw [e1, e2]
      simp only [Bool.false_eq_true, if_false, Bool.false_or]
      rw [← h2]
      split
      · rename_i h
        rw [beq_iff_eq] at h
        rw [h]
        exact ⟨by omega, by decide⟩
      · rename_i h
        have h' : ¬ Lib.indexByte l c = -1 := by simpa using h
        refine ⟨by omega, ?_⟩
        congr 1
        simp only [eq_iff_iff]
        omega
theorem rixb_any (c : UInt8) (l : List UInt8) (w : World) : Calls Tryd.prog 55 #[.string ⟨l.toArray⟩, .int .u8 c.toNat] w fun e w' => ∃ i : Int, e = .returned (.int .i64 i) ∧ decide (0 ≤ i) = l.contains c ∧ w = w' := by
  refine (Tryd.strings_IndexByte ⟨l.toArray⟩ c.toNat w).mono ?_
  rintro e w1 ⟨rfl, rfl⟩
  have e1 : ((c.toNat : Int)).toNat.toUInt8 = c := by rw [Int.toNat_natCast]; exact UInt8.ofNat_toNat
  refine ⟨_, rfl, ?_, rfl⟩
  rw [e1]
  exact (rixb_neg l c).2

set_option maxHeartbeats 800000 in
theorem value_any (c : UInt8) (w : World) : Calls Tryd.prog 71 #[.int .u8 c.toNat] w fun e w' => e = .returned (.tuple #[.int .u8 ((Ab.hv c).getD 0 : Nat), .bool (Ab.hv c).isSome]) ∧ w = w' := by
  have hc := c.toNat_lt
  by_cases h1 : 48 ≤ c.toNat ∧ c.toNat ≤ 57
  · have e : Hid (Ab.hv c = some (c.toNat - 48)) := Lib.hid (by unfold Ab.hv; rw [if_pos h1])
    rw [e.out]
    go_enter Tryd.func71, Tryd.ntmps71
    go_wp2
    all_goals first | omega | skip
    all_goals go_ret2
    all_goals refine ⟨?_, rfl⟩
    all_goals simp
    all_goals omega
  · by_cases h2 : 97 ≤ c.toNat ∧ c.toNat ≤ 102
    · have e : Hid (Ab.hv c = some (c.toNat - 87)) := Lib.hid (by unfold Ab.hv; rw [if_neg h1, if_pos h2])
      rw [e.out]
      go_enter Tryd.func71, Tryd.ntmps71
      go_wp2
      all_goals first | omega | skip
      all_goals go_ret2
      all_goals refine ⟨?_, rfl⟩
      all_goals simp
      all_goals omega
    · by_cases h3 : 65 ≤ c.toNat ∧ c.toNat ≤ 70
      · have e : Hid (Ab.hv c = some (c.toNat - 55)) := Lib.hid (by unfold Ab.hv; rw [if_neg h1, if_neg h2, if_pos h3])
        rw [e.out]
        go_enter Tryd.func71, Tryd.ntmps71
        go_wp2
        all_goals first | omega | skip
        all_goals go_ret2
        all_goals refine ⟨?_, rfl⟩
        all_goals simp
        all_goals omega
      · have e : Hid (Ab.hv c = none) := Lib.hid (by unfold Ab.hv; rw [if_neg h1, if_neg h2, if_neg h3])
        rw [e.out]
        go_enter Tryd.func71, Tryd.ntmps71
        go_wp2
        all_goals first | omega | skip
        all_goals go_ret2
        all_goals refine ⟨?_, rfl⟩
        all_goals simp
end Go.Proofs.YtckcgiimeaklcaaDoor
