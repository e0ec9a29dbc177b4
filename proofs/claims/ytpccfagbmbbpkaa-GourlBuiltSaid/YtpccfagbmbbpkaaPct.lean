/-
  What the functions of package percent do, one contract each: hex digits, escapes.
-/
import Derived.Test.YtpccfagbmbbpkaaOct
import Derived.Test.YtpccfagbmbbpkaaStr
import Derived.Test.YtpccfagbmbbpkaaPlain
import Derived.WalkKit
import Derived.WalkLawsBesides
import Derived.WalkSpells
import Derived.BigQuiet
import Derived.Lib.Hide
namespace Go.Proofs.Ytpccfagbmbbpkaa
open Go.RowKit

theorem or16 (x y : Int) (hx : 0 ≤ x ∧ x ≤ 15) (hy : 0 ≤ y ∧ y ≤ 15) : bits .or .u8 (x * 16) y = 16 * x + y := by
  obtain ⟨x, rfl⟩ := Int.eq_ofNat_of_zero_le hx.1
  obtain ⟨y, rfl⟩ := Int.eq_ofNat_of_zero_le hy.1
  have e : ((x : Int) * 16) = ((x * 16 : Nat) : Int) := by omega
  rw [e, u8_or_nat _ _ (by omega) (by omega), nat_join 4 (x * 16) y (by omega) (by omega)]
  omega

set_option maxHeartbeats 400000 in
theorem value_any (c : Int) (h0 : 0 ≤ c) (h1 : c ≤ 255) (w : World) : Calls Try.prog 48 #[.int .u8 c] w fun e w' => e = .returned (.tuple #[.int .u8 (Pc.v c), .bool (Pc.ok c)]) ∧ w = w' := by
  go_enter Try.func48, Try.ntmps48
  go_wp2
  all_goals go_ret2
  all_goals refine ⟨?_, rfl⟩
  all_goals simp only [Array.getD_eq_getD_getElem?]
  all_goals unfold Pc.v Pc.ok
  all_goals simp
  all_goals omega

set_option maxHeartbeats 400000 in
theorem hex_any (c : Int) (h0 : 0 ≤ c) (h1 : c ≤ 255) (w : World) : Calls Try.prog 62 #[.int .u8 c] w fun e w' => e = .returned (.bool (Pc.ok c)) ∧ w = w' := by
  go_enter Try.func62, Try.ntmps62
  go_wp2_with (go_at_call 48; refine (value_any _ (by omega) (by omega) _).mono ?_; rintro e w' ⟨rfl, rfl⟩)
  go_ret
  exact ⟨rfl, rfl⟩

theorem ret2_int_bool {x y : Int} {a b : Bool} (h : x = y) (g : a = b) : Ending.returned (.tuple #[.int .u8 x, .bool a]) = .returned (.tuple #[.int .u8 y, .bool b]) := by rw [h, g]

set_option maxHeartbeats 800000 in
theorem escape_any (l : Pc.B) (w : World) : Calls Try.prog 36 #[.string ⟨l.toArray⟩] w fun e w' => e = .returned (.tuple #[.int .u8 (Pc.escX l), .bool (Pc.escOk l)]) ∧ w = w' := by
  rcases l with _ | ⟨a, _ | ⟨b, _ | ⟨c, t⟩⟩⟩
  · go_enter Try.func36, Try.ntmps36
    go_wp2
    go_ret2
    exact ⟨rfl, rfl⟩
  · go_enter Try.func36, Try.ntmps36
    go_wp2
    go_ret2
    exact ⟨rfl, rfl⟩
  · go_enter Try.func36, Try.ntmps36
    go_wp2
    go_ret2
    exact ⟨rfl, rfl⟩
  · have ha := a.toNat_lt
    have hb := b.toNat_lt
    have hc := c.toNat_lt
    have hv := Pc.v_bd b.toNat
    have hv' := Pc.v_bd c.toNat
    by_cases h : a.toNat = 37
    · cases hq : Pc.ok b.toNat
      all_goals
        go_enter Try.func36, Try.ntmps36
        go_wp2_with (go_at_call 48; refine (value_any _ (by omega) (by omega) _).mono ?_; rintro e w' ⟨rfl, rfl⟩)
        go_ret2
        have hA : a = 37 := UInt8.toNat_inj.mp (by simpa using h)
        exact ⟨ret2_int_bool (by rw [or16 _ _ hv hv']; simp [Pc.escX, hA]) (by simp [Pc.escOk, hA, hq]), rfl⟩
    · have hn : ((a.toNat : Int) != 37) = true := by rw [bne_iff_ne]; omega
      go_enter Try.func36, Try.ntmps36
      go_wp2
      go_ret2
      have hA : ¬ a = 37 := fun e => h (by rw [e]; rfl)
      exact ⟨ret2_int_bool (by simp [Pc.escX, hA]) (by simp [Pc.escOk, hA]), rfl⟩
end Go.Proofs.Ytpccfagbmbbpkaa
