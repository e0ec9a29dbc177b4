/-
  The document's own answers: hex digits, escapes, validity.
-/
import Derived.Test.YtmgfhlkpmacehaaEnc
import Derived.Test.YtmgfhlkpmacehaaUp
namespace Go.Proofs.Ytmgfhlkpmacehaa
open Go.RowKit Go.Proofs.YtmgfhlkpmacehaaW.PrintWords

def rowD : List UInt8 := [48, 49, 50, 51, 52, 53, 54, 55, 56, 57, 97, 98, 99, 100, 101, 102, 48, 49, 50, 51, 52, 53, 54, 55, 56, 57, 65, 66, 67, 68, 69, 70]
theorem rowD_len : rowD.length = 32 := rfl
def refV (c : Int) : Int := if Pc.ok c then Pc.v c else -1
theorem rowD_hit : ∀ k : Fin 32, refV ((rowD[k.val]'(by rw [rowD_len]; exact k.isLt)).toNat : Int) = ((k.val % 16 : Nat) : Int) := by decide
theorem rowD_all : ∀ c : Fin 256, (∀ k : Fin 32, ((rowD[k.val]'(by rw [rowD_len]; exact k.isLt)).toNat : Int) ≠ (c.val : Int)) → Pc.ok (c.val : Int) = false := by decide +kernel
theorem refV_bd (c : Int) : -1 ≤ refV c ∧ refV c ≤ 15 := by
  have := Pc.v_bd c
  unfold refV
  split <;> omega
theorem refV_ge (c : Int) : decide (0 ≤ refV c) = Pc.ok c := by
  have := Pc.v_bd c
  unfold refV
  cases Pc.ok c <;> simp <;> omega

set_option maxHeartbeats 800000 in
theorem rvalue_any (c : Int) (h0 : 0 ≤ c) (h1 : c ≤ 255) (w : World) : Calls Try.prog 22 #[.int .u8 c] w fun e w' => e = .returned (.int .i64 (refV c)) ∧ w = w' := by
  go_enter Try.func22, Try.ntmps22
  go_wp2
  go_loop [3] (fun i => ∃ k : Nat, k ≤ 32 ∧ i = .int .i64 k ∧ Hid (∀ j, (h : j < 32) → j < k → ((rowD[j]'(by rw [rowD_len]; exact h)).toNat : Int) ≠ c)) (fun i => 32 - (intOf i).toNat)
  case atStart => exact ⟨0, by omega, rfl, fun j h hj => absurd hj (by omega)⟩
  case round =>
    obtain ⟨k, hk, rfl, HN⟩ := hrel
    by_cases hlt : k < 32
    · have x1 : (k : Int) < 32 := by omega
      by_cases hc : ((rowD[k]'(by rw [rowD_len]; exact hlt)).toNat : Int) = c
      · have HC := Lib.hid hc
        have hb : (((rowD[k]'(by rw [rowD_len]; exact hlt)).toNat : Int) == c) = true := beq_iff_eq.2 hc
        clear hc
        unfold rowD at hb
        go_wp2
        go_ret
        refine ⟨ret_int ?_, rfl⟩
        have := rowD_hit ⟨k, hlt⟩
        simp only at this
        rw [HC.out] at this
        rw [this]
        omega
      · have HC := Lib.hid hc
        have hb : (((rowD[k]'(by rw [rowD_len]; exact hlt)).toNat : Int) == c) = false := beq_eq_false_iff_ne.2 hc
        clear hc
        unfold rowD at hb
        go_wp2
        go_round
        case rel =>
          refine ⟨k + 1, by omega, by go_num, fun j h hj => ?_⟩
          rcases Nat.lt_or_ge j k with g | g
          · exact HN.out j h g
          · obtain rfl : j = k := by omega
            exact HC.out
        case measure => simp [intOf]; omega
    · have e : k = 32 := by omega
      subst e
      go_wp2
      go_ret
      refine ⟨ret_int ?_, rfl⟩
      obtain ⟨c, rfl⟩ := Int.eq_ofNat_of_zero_le h0
      have := rowD_all ⟨c, by omega⟩ (fun j => HN.out j.val j.isLt j.isLt)
      simp only at this
      rw [refV, this]
      simp

set_option maxHeartbeats 800000 in
theorem at_any (l : Pc.B) (k : Nat) (hl : l.length ≤ 1000000) (hk : k ≤ l.length) (w : World) : Calls Try.prog 27 #[.string ⟨l.toArray⟩, .int .i64 k] w fun e w' => e = .returned (.bool (Pc.escOk (l.drop k))) ∧ w = w' := by
  by_cases h2 : k + 2 < l.length
  · have hE := Lib.hid (Pc.escOk_at h2)
    have g0 := l[k].toNat_lt
    have g1 := l[k + 1].toNat_lt
    have g2 := l[k + 2].toNat_lt
    by_cases hA : l[k] = 37
    · have hb : ((l[k].toNat : Int) == 37) = true := by rw [hA]; rfl
      have HA := Lib.hid hA
      clear hA
      have q1 := Lib.hid (refV_ge l[k + 1].toNat)
      have q2 := Lib.hid (refV_ge l[k + 2].toNat)
      by_cases o1 : 0 ≤ refV l[k + 1].toNat <;> by_cases o2 : 0 ≤ refV l[k + 2].toNat
      all_goals
        go_enter Try.func27, Try.ntmps27
        go_wp2_with (go_at_call 22; refine (rvalue_any _ (by omega) (by omega) _).mono ?_; rintro e w' ⟨rfl, rfl⟩)
        go_ret
        refine ⟨ret_bool ?_, rfl⟩
        rw [hE.out, HA.out, ← q1.out, ← q2.out]
        simp [o1, o2]
    · have hb : ((l[k].toNat : Int) == 37) = false := beq_f (u8_ne (d := 37) hA)
      have HA := Lib.hid hA
      clear hA
      go_enter Try.func27, Try.ntmps27
      go_wp2
      go_ret
      refine ⟨ret_bool ?_, rfl⟩
      rw [hE.out]
      simp [HA.out]
  · have hE := Lib.hid (Pc.escOk_short h2)
    go_enter Try.func27, Try.ntmps27
    go_wp2
    go_ret
    refine ⟨ret_bool ?_, rfl⟩
    rw [hE.out]

set_option maxHeartbeats 400000 in
theorem rvalid_any (l : Pc.B) (hl : l.length ≤ 1000000) (w : World) : Calls Try.prog 12 #[.string ⟨l.toArray⟩] w fun e w' => e = .returned (.bool (Pc.valid l)) ∧ w = w' := by
  go_enter Try.func12, Try.ntmps12
  go_wp2
  go_loop [3] (fun i => ∃ k : Nat, k ≤ l.length ∧ i = .int .i64 k ∧ Hid (Pc.valid l = Pc.valid (l.drop k))) (fun i => l.length - (intOf i).toNat)
  case atStart => exact ⟨0, by omega, rfl, Lib.hid rfl⟩
  case round =>
    obtain ⟨k, hk, rfl, HV⟩ := hrel
    by_cases hlt : k < l.length
    · have hd := Lib.hid (List.drop_eq_getElem_cons hlt)
      cases hc : ((l[k].toNat : Int) == 37) <;> cases he : Pc.escOk (l.drop k)
      all_goals
        go_wp2_with (go_at_call 27; refine (at_any _ _ hl (by omega) _).mono ?_; rintro e w' ⟨rfl, rfl⟩)
        first
          | (go_round
             case rel =>
              refine ⟨k + 1, by omega, by go_num, Lib.hid (HV.out.trans ?_)⟩
              rw [hd.out] at he ⊢
              rw [b37] at hc
              simp_all [Pc.valid]
             case measure => simp [intOf]; omega)
          | (go_ret
             refine ⟨ret_bool ?_, rfl⟩
             rw [hd.out] at he
             rw [HV.out, hd.out]
             rw [b37] at hc
             simp_all [Pc.valid])
    · go_wp2
      go_ret
      refine ⟨ret_bool ?_, rfl⟩
      rw [HV.out, List.drop_eq_nil_of_le (by omega)]; rfl
end Go.Proofs.Ytmgfhlkpmacehaa
