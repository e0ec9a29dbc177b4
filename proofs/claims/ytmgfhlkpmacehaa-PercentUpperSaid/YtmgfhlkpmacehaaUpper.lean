/-
  PercentUpper: a text's one form is as long, is its own one form, and says the same: the call returns true.
-/
import Derived.Test.YtmgfhlkpmacehaaDec
import Derived.Test.YtmgfhlkpmacehaaUp
import Derived.Test.YtmgfhlkpmacehaaAwake
import Derived.Test.YtmgfhlkpmacehaaLaw
namespace Go.Proofs.Ytmgfhlkpmacehaa
open Go.RowKit Go.Proofs.YtmgfhlkpmacehaaW.PrintWords

set_option maxRecDepth 100000 in
set_option maxHeartbeats 1600000 in
theorem pupper_list (l : Pc.B) (hl0 : l.length ≤ 9223372036854775807) (w : World) : Calls Try.prog 5 #[.string ⟨l.toArray⟩] w fun e w' => e = .returned (.bool true) ∧ Below w.heap.size w w' := by
  have hml : ∃ m : Pc.B, m.length ≤ 3000 ∧ m = if 3000 < l.length then l.take 3000 else l := by
    refine ⟨_, ?_, rfl⟩
    split
    · simp; omega
    · omega
  obtain ⟨ml, hll, hel⟩ := hml
  obtain ⟨u1, u2, u3, u4, u5⟩ := Pc.upper_laws ml
  have u6 : decV (Pc.upper ml) = decV ml := by unfold decV; rw [u3, u4]
  have U5 := Lib.hid u5
  clear u4 u5
  by_cases h5 : 3000 < l.length
  all_goals
    first | rw [if_pos h5] at hel | rw [if_neg h5] at hel
    have HM := Lib.hid hel
    clear hel
    have HB := Below.refl w.heap.size w
    go_enter Try.func5, Try.ntmps5
    go_wp2_with fail
    rw [← HM.out]
    clear HM h5 hl0
    go_wp2_with (first | (go_at_call 9; refine (decode_any _ (by omega) _).mono ?_; rintro e w1 ⟨rfl, B1⟩; replace HB := bthen HB B1; clear B1) | (go_at_call 11; refine (valid_any _ (by omega) _).mono ?_; rintro e w1 ⟨rfl, rfl⟩) | (go_at_call 16; refine (upper_any _ (by omega) _).mono ?_; rintro e w1 ⟨rfl, B1⟩; replace HB := bthen HB B1; clear B1) | (go_at_call 18; refine (awake_any _).mono ?_; rintro e w1 ⟨rfl, B1⟩; replace HB := bthen HB B1; clear B1))
    go_loopw [8] (fun i wr => ∃ k : Nat, k ≤ ml.length ∧ i = .int .i64 k ∧ Below w.heap.size w wr) (fun i _ => ml.length - (intOf i).toNat)
    case atStart => exact ⟨0, by omega, rfl, HB⟩
    case round =>
      obtain ⟨k, hk, rfl, HB⟩ := hrel
      by_cases hlt : k < ml.length
      · have hlt' : k < (Pc.upper ml).length := by omega
        have hn := U5.out k hlt hlt'
        have h1 := ml[k].toNat_lt
        have h2 := (Pc.upper ml)[k].toNat_lt
        rcases hn with hn | ⟨hn1, hn2, hn3⟩
        · have e1 : (((Pc.upper ml)[k].toNat : Int) != (ml[k].toNat : Int)) = false := by rw [hn]; simp
          clear hn
          go_wp2
          go_region
          go_wp2
          go_roundw
          case rel => exact ⟨k + 1, by omega, by go_num, HB.drew⟩
          case measure => simp [intOf]; omega
        · have e1 : (((Pc.upper ml)[k].toNat : Int) != (ml[k].toNat : Int)) = true := by
            apply bne_t
            intro h
            have := int_u8_eq _ _ h
            rw [← this] at hn3
            have h3 : ((Pc.upper ml)[k] + 32).toNat = (Pc.upper ml)[k].toNat := by rw [← hn3]
            rw [UInt8.toNat_add] at h3
            simp at h3
            omega
          have e2 : ml[k].toNat = (Pc.upper ml)[k].toNat + 32 := by
            rw [hn3, UInt8.toNat_add]
            simp
            omega
          have e3 : ((ml[k].toNat : Int) != ((Pc.upper ml)[k].toNat : Int) + 32) = false := by
            apply bne_f
            rw [e2]; simp
          have e4 : decide (((Pc.upper ml)[k].toNat : Int) < 65) = false := decide_eq_false (by omega)
          have e5 : decide (70 < ((Pc.upper ml)[k].toNat : Int)) = false := decide_eq_false (by omega)
          have e6 : IntKind.u8.wrap (((Pc.upper ml)[k].toNat : Int) + 32) = ((Pc.upper ml)[k].toNat : Int) + 32 := IntWalk.u8_in _ (by omega)
          clear e2 hn1 hn2 hn3
          go_wp2
          go_region
          go_wp2
          go_roundw
          case rel => exact ⟨k + 1, by omega, by go_num, HB.drew⟩
          case measure => simp [intOf]; omega
      · go_wp2_with (first | (go_at_call 9; refine (decode_any _ (by omega) _).mono ?_; rintro e w1 ⟨rfl, B1⟩; replace HB := bthen HB B1; clear B1) | (go_at_call 11; refine (valid_any _ (by omega) _).mono ?_; rintro e w1 ⟨rfl, rfl⟩) | (go_at_call 16; refine (upper_any _ (by omega) _).mono ?_; rintro e w1 ⟨rfl, B1⟩; replace HB := bthen HB B1; clear B1) | (go_at_call 18; refine (awake_any _).mono ?_; rintro e w1 ⟨rfl, B1⟩; replace HB := bthen HB B1; clear B1))
        go_ret
        exact ⟨rfl, HB⟩

theorem pupper_any (a : ByteArray) (ha : a.size ≤ maxLen) (w : World) : Calls Try.prog 5 #[.string a] w fun e w' => e = .returned (.bool true) ∧ Below w.heap.size w w' := by
  have h : a.data.toList.length ≤ 9223372036854775807 := by rw [data_length]; exact ha
  rw [str_eq a]
  exact pupper_list _ h w
end Go.Proofs.Ytmgfhlkpmacehaa
