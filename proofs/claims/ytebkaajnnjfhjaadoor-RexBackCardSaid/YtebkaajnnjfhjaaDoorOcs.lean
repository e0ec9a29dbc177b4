/-
  What the functions of package octets do with sets of bytes as four words: a contract for each.
-/
import Derived.Test.YtebkaajnnjfhjaaDoorRows
import Derived.Test.YtebkaajnnjfhjaaDoorSet
import Derived.WalkKit
import Derived.WalkLawsBesides
import Derived.WalkSpells
import Derived.BigQuiet
import Derived.Lib.Hide
namespace Go.Proofs.YtebkaajnnjfhjaaDoor
set_option linter.unusedVariables false
set_option linter.unusedSimpArgs false
open Go.RowKit

theorem wrap_pow (c : Nat) : IntKind.u64.wrap ((2 : Int) ^ (c % 64)) = (W4.bit c : Int) := by
  have h := W4.pow_lt c
  have e : ((2 : Int) ^ (c % 64)) = (W4.bit c : Int) := by simp [W4.bit]
  rw [e]
  exact IntWalk.u64_in _ (by omega)
theorem u64_not (a : Nat) (h : a < 18446744073709551616) : bits .xor .u64 IntKind.u64.max (a : Int) = ((18446744073709551615 - a : Nat) : Int) := by
  have e : IntKind.u64.max = ((18446744073709551615 : Nat) : Int) := by decide
  rw [e, u64_xor_nat _ _ (by omega) h]
  congr 1
  refine Nat.eq_of_testBit_eq fun i => ?_
  rw [Nat.testBit_xor]
  by_cases hi : i < 64
  · rw [W4.testBit_sub h hi]
    have e1 : (18446744073709551615 : Nat) = 2 ^ 64 - 1 := by decide
    rw [e1, Nat.testBit_two_pow_sub_one]
    simp [hi]
  · have hp : (18446744073709551616 : Nat) ≤ 2 ^ i := by
      have : (18446744073709551616 : Nat) = 2 ^ 64 := by decide
      rw [this]
      exact Nat.pow_le_pow_right (by omega) (by omega)
    rw [Nat.testBit_lt_two_pow (x := a) (by omega), Nat.testBit_lt_two_pow (x := 18446744073709551615) (by omega), Nat.testBit_lt_two_pow (x := 18446744073709551615 - a) (by omega)]
    rfl
theorem u64_and_bit (x c : Nat) (hx : x < 18446744073709551616) : (bits .and .u64 (x : Int) (W4.bit c : Int) != 0) = x.testBit (c % 64) := by
  rw [u64_and_nat _ _ hx (W4.pow_lt c), W4.bit, nat_bit, Nat.testBit_eq_decide_div_mod_eq]
  have hp : 0 < 2 ^ (c % 64) := Nat.two_pow_pos _
  generalize 2 ^ (c % 64) = y at hp ⊢
  have h2 : x / y % 2 = 0 ∨ x / y % 2 = 1 := by omega
  rcases h2 with h2 | h2
  · simp [h2]
  · simp only [h2, Nat.one_mul, decide_true]
    rw [bne_iff_ne]
    omega

set_option maxHeartbeats 400000 in
theorem bit_any (c : Nat) (h1 : c < 256) (w : World) : Calls Tryd.prog 24 #[.int .u8 c] w fun e w' => e = .returned (.tuple #[.int .i64 ((c / 64 : Nat) : Int), .int .u64 (W4.bit c : Int)]) ∧ w = w' := by
  go_enter Tryd.func24, Tryd.ntmps24
  go_wp2
  all_goals go_ret2
  all_goals refine ⟨?_, rfl⟩
  simp [← wrap_pow]
theorem bit_at (c q : Nat) (h1 : c < 256) (hq : c / 64 = q) (w : World) : Calls Tryd.prog 24 #[.int .u8 c] w fun e w' => e = .returned (.tuple #[.int .i64 q, .int .u64 (W4.bit c : Int)]) ∧ w = w' := by
  subst hq
  exact bit_any c h1 w

set_option maxHeartbeats 400000 in
theorem not_any (s : W4) (hs : s.Ok) (w : World) : Calls Tryd.prog 64 #[.agg #[.int .u64 s.a, .int .u64 s.b, .int .u64 s.c, .int .u64 s.d]] w fun e w' =>
    e = .returned (.agg #[.int .u64 s.not.a, .int .u64 s.not.b, .int .u64 s.not.c, .int .u64 s.not.d]) ∧ Below w.heap.size w w' := by
  obtain ⟨h1, h2, h3, h4⟩ := hs
  have e1 := Lib.hid (u64_not s.a h1)
  have e2 := Lib.hid (u64_not s.b h2)
  have e3 := Lib.hid (u64_not s.c h3)
  have e4 := Lib.hid (u64_not s.d h4)
  clear h1 h2 h3 h4
  go_enter Tryd.func64, Tryd.ntmps64
  go_wp2
  refine wp_loop_rounds 5 ?_
  rw [rounds_succ]
  go_wp2
  rw [rounds_succ]
  go_wp2
  rw [rounds_succ]
  go_wp2
  rw [rounds_succ]
  go_wp2
  rw [rounds_succ]
  go_wp2
  simp only [e1.out, e2.out, e3.out, e4.out]
  exact bodyPost_ret (v := .agg #[.int .u64 s.not.a, .int .u64 s.not.b, .int .u64 s.not.c, .int .u64 s.not.d]) (by simp [results, Tryd.results64, go_sem, W4.not]) rfl ⟨rfl, by (repeat (first | exact Below.refl _ _ | assumption | refine Below.drew ?_ | refine Below.alloc ?_ (by first | exact Nat.le_refl _ | (simp; done) | (simp; omega) | omega) _ | refine Below.setCell ?_ (by first | exact Nat.le_refl _ | (simp; done) | (simp; omega) | omega) _))⟩

set_option maxHeartbeats 400000 in
theorem or_any (s t : W4) (hs : s.Ok) (ht : t.Ok) (w : World) : Calls Tryd.prog 91 #[.agg #[.int .u64 s.a, .int .u64 s.b, .int .u64 s.c, .int .u64 s.d], .agg #[.int .u64 t.a, .int .u64 t.b, .int .u64 t.c, .int .u64 t.d]] w fun e w' =>
    e = .returned (.agg #[.int .u64 (s.or t).a, .int .u64 (s.or t).b, .int .u64 (s.or t).c, .int .u64 (s.or t).d]) ∧ Below w.heap.size w w' := by
  obtain ⟨h1, h2, h3, h4⟩ := hs
  obtain ⟨g1, g2, g3, g4⟩ := ht
  have e1 := Lib.hid (u64_or_nat s.a t.a h1 g1)
  have e2 := Lib.hid (u64_or_nat s.b t.b h2 g2)
  have e3 := Lib.hid (u64_or_nat s.c t.c h3 g3)
  have e4 := Lib.hid (u64_or_nat s.d t.d h4 g4)
  clear h1 h2 h3 h4 g1 g2 g3 g4
  go_enter Tryd.func91, Tryd.ntmps91
  go_wp2
  refine wp_loop_rounds 5 ?_
  rw [rounds_succ]
  go_wp2
  go_region
  go_wp2
  rw [rounds_succ]
  go_wp2
  go_region
  go_wp2
  rw [rounds_succ]
  go_wp2
  go_region
  go_wp2
  rw [rounds_succ]
  go_wp2
  go_region
  go_wp2
  rw [rounds_succ]
  go_wp2
  simp only [e1.out, e2.out, e3.out, e4.out]
  exact bodyPost_ret (v := .agg #[.int .u64 (s.or t).a, .int .u64 (s.or t).b, .int .u64 (s.or t).c, .int .u64 (s.or t).d]) (by simp [results, Tryd.results91, go_sem, W4.or]) rfl ⟨rfl, by (repeat (first | exact Below.refl _ _ | assumption | refine Below.drew ?_ | refine Below.alloc ?_ (by first | exact Nat.le_refl _ | (simp; done) | (simp; omega) | omega) _ | refine Below.setCell ?_ (by first | exact Nat.le_refl _ | (simp; done) | (simp; omega) | omega) _))⟩

set_option maxHeartbeats 800000 in
theorem range_any (f t : Nat) (hf : f < 256) (ht : t < 256) (w : World) : Calls Tryd.prog 92 #[.int .u8 f, .int .u8 t] w fun e w' =>
    e = .returned (.agg #[.int .u64 (W4.range f t).a, .int .u64 (W4.range f t).b, .int .u64 (W4.range f t).c, .int .u64 (W4.range f t).d]) ∧ Below w.heap.size w w' := by
  go_enter Tryd.func92, Tryd.ntmps92
  go_wp2
  go_loopw [6] (fun i wr => ∃ k : Nat, f + k ≤ 256 ∧ (k = 0 ∨ f + k ≤ t + 1) ∧ i = .int .i64 ((f + k : Nat) : Int) ∧ wr = (w.alloc (.cells #[.int .u64 0, .int .u64 0, .int .u64 0, .int .u64 0] 24)).alloc (.cells #[.int .u64 (W4.rangeTo f k).a, .int .u64 (W4.rangeTo f k).b, .int .u64 (W4.rangeTo f k).c, .int .u64 (W4.rangeTo f k).d] 24)) (fun i _ => 256 - (intOf i).toNat)
  case atStart => exact ⟨0, by omega, .inl rfl, rfl, rfl⟩
  case round =>
    obtain ⟨k, hk, hk', rfl, rfl⟩ := hrel
    by_cases hlt : f + k ≤ t
    · have hc : (f + k) / 64 = 0 ∨ (f + k) / 64 = 1 ∨ (f + k) / 64 = 2 ∨ (f + k) / 64 = 3 := by omega
      have hO := W4.ok_rangeTo f k
      have hp := W4.pow_lt (f + k)
      have o0 := Lib.hid (u64_or_nat _ _ hO.1 hp)
      have o1 := Lib.hid (u64_or_nat _ _ hO.2.1 hp)
      have o2 := Lib.hid (u64_or_nat _ _ hO.2.2.1 hp)
      have o3 := Lib.hid (u64_or_nat _ _ hO.2.2.2 hp)
      clear hO hp
      rcases hc with hc | hc | hc | hc
      all_goals
        have HQ := Lib.hid hc
        clear hc
        go_wp2_with (go_at_call 24; refine (bit_at (f + k) _ (by omega) HQ.out _).mono ?_; rintro e w' ⟨rfl, rfl⟩)
        go_roundw
        case rel =>
          refine ⟨k + 1, by omega, .inr (by omega), by go_num, ?_⟩
          rw [W4.rangeTo]
          first | rw [W4.put_0 _ _ HQ.out, ← o0.out] | rw [W4.put_1 _ _ HQ.out, ← o1.out] | rw [W4.put_2 _ _ HQ.out, ← o2.out] | rw [W4.put_3 _ _ HQ.out, ← o3.out]
        case measure => simp [intOf]; omega
    · go_wp2
      have e : k = t + 1 - f := by omega
      subst e
      exact bodyPost_ret (v := .agg #[.int .u64 (W4.range f t).a, .int .u64 (W4.range f t).b, .int .u64 (W4.range f t).c, .int .u64 (W4.range f t).d]) (by simp [results, Tryd.results92, go_sem, W4.range]) rfl ⟨rfl, by (repeat (first | exact Below.refl _ _ | assumption | refine Below.drew ?_ | refine Below.alloc ?_ (by first | exact Nat.le_refl _ | (simp; done) | (simp; omega) | omega) _ | refine Below.setCell ?_ (by first | exact Nat.le_refl _ | (simp; done) | (simp; omega) | omega) _))⟩

end Go.Proofs.YtebkaajnnjfhjaaDoor
