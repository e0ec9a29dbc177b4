/-
  The document's Affords and More.
-/
import Derived.Test.YtjcjalobbgkcpaaLeft
namespace Go.Proofs.Ytjcjalobbgkcpaa
open Go.RowKit Go.Proofs.YtjcjalobbgkcpaaW.PrintWords

set_option exponentiation.threshold 3000
namespace Fl
theorem whole_up (b : Nat) (h : 1075 ≤ ex b) : whole b = (4503599627370496 + fr b) * 2 ^ (ex b - 1075) := by
  unfold whole V mg pl ONE
  rw [if_neg (by omega)]
  have : 2 ^ (ex b - 1) = 2 ^ (ex b - 1075) * 2 ^ 1074 := by rw [← Nat.pow_add]; congr 1; omega
  rw [this, ← Nat.mul_assoc, Nat.mul_div_cancel _ (two_pos _)]
theorem whole_down (b : Nat) (h0 : 0 < ex b) (h : ex b < 1075) : whole b = (4503599627370496 + fr b) / 2 ^ (1075 - ex b) := by
  unfold whole V mg pl ONE
  rw [if_neg (by omega)]
  have : 2 ^ 1074 = 2 ^ (1075 - ex b) * 2 ^ (ex b - 1) := by rw [← Nat.pow_add]; congr 1; omega
  rw [this, Nat.mul_div_mul_right _ _ (two_pos _)]
theorem whole_small (b : Nat) (h : ex b < 1023) : whole b = 0 := by
  have hf := fr_lt b
  by_cases h0 : ex b = 0
  · unfold whole V mg pl ONE
    rw [if_pos h0, h0]
    refine Nat.div_eq_of_lt ?_
    have : (2 : Nat) ^ 53 ≤ 2 ^ 1074 := Nat.pow_le_pow_right (by omega) (by omega)
    have e : (2 : Nat) ^ 53 = 9007199254740992 := by decide
    rw [e] at this
    simp only [Nat.zero_sub, Nat.pow_zero, Nat.mul_one]
    exact Nat.lt_of_lt_of_le (by omega) this
  · rw [whole_down b (by omega) (by omega)]
    refine Nat.div_eq_of_lt ?_
    have : (2 : Nat) ^ 53 ≤ 2 ^ (1075 - ex b) := Nat.pow_le_pow_right (by omega) (by omega)
    have e : (2 : Nat) ^ 53 = 9007199254740992 := by decide
    rw [e] at this
    exact Nat.lt_of_lt_of_le (by omega) this
theorem whole_big2 (b : Nat) (h : 1087 ≤ ex b) : 18446744073709551616 ≤ whole b := by
  rw [whole_up b (by omega)]
  have h1 : 2 ^ 12 ≤ 2 ^ (ex b - 1075) := Nat.pow_le_pow_right (by omega) (by omega)
  have h2 : 4503599627370496 * 2 ^ 12 ≤ (4503599627370496 + fr b) * 2 ^ (ex b - 1075) := Nat.mul_le_mul (by omega) h1
  have h3 : 4503599627370496 * 2 ^ 12 = 18446744073709551616 := by decide
  omega
end Fl

set_option maxHeartbeats 800000 in
theorem rmore_any (s : Nat) (hs : s ≤ 18446744073709551615) (n : Int) (hn : -9223372036854775808 ≤ n ∧ n ≤ 9223372036854775807) (w : World) : Calls Try.prog 24 #[.int .u64 s, .int .i64 n] w fun e w' => e = .returned (.int .u64 (more s n)) ∧ w = w' := by
  by_cases h1 : n < 1
  · have e1 : more s n = s := by unfold more; rw [if_pos h1]
    rw [e1]
    go_enter Try.func24, Try.ntmps24
    go_wp2
    go_ret
    exact ⟨rfl, rfl⟩
  · have e1 : more s n = min (s + n.toNat) 18446744073709551615 := by unfold more; rw [if_neg h1]
    have hw1 : IntKind.u64.wrap n = n := IntWalk.u64_in _ (by omega)
    have hw2 : IntKind.u64.wrap (18446744073709551615 - (s : Int)) = 18446744073709551615 - (s : Int) := IntWalk.u64_in _ (by omega)
    by_cases h2 : 18446744073709551615 - (s : Int) < n
    · have e2 : more s n = 18446744073709551615 := by omega
      rw [e2]
      clear e1 e2
      go_enter Try.func24, Try.ntmps24
      go_wp2
      go_ret
      exact ⟨rfl, rfl⟩
    · have e2 : (s : Int) + n = ((more s n : Nat) : Int) := by omega
      have hw3 : IntKind.u64.wrap ((s : Int) + n) = ((more s n : Nat) : Int) := by rw [IntWalk.u64_in _ (by omega), e2]
      clear e1 e2
      go_enter Try.func24, Try.ntmps24
      go_wp2
      go_ret
      exact ⟨rfl, rfl⟩

def uv (M k : Nat) : Nat := M * 2 ^ k
theorem uv_zero (M : Nat) : uv M 0 = M := by simp [uv]
theorem uv_lt (M k : Nat) (h : M < 9007199254740992) (hk : k ≤ 11) : uv M k < 18446744073709551616 := by
  have h1 : 2 ^ k ≤ 2 ^ 11 := Nat.pow_le_pow_right (by omega) hk
  have h2 : M * 2 ^ k ≤ M * 2 ^ 11 := Nat.mul_le_mul_left _ h1
  have h3 : (2 : Nat) ^ 11 = 2048 := by decide
  rw [h3] at h2
  unfold uv
  omega
theorem uv_succ (M k : Nat) (h : uv M (k + 1) < 18446744073709551616) : IntKind.u64.wrap ((uv M k : Int) * 2) = (uv M (k + 1) : Int) := by
  have e : uv M (k + 1) = uv M k * 2 := by unfold uv; rw [Nat.pow_succ, Nat.mul_assoc]
  rw [e] at h ⊢
  rw [IntWalk.u64_in _ (by omega)]
  omega
def hv (M k : Nat) : Nat := M / 2 ^ k
theorem half (M k : Nat) : ((hv M k : Nat) : Int).tdiv 2 = ((hv M (k + 1) : Nat) : Int) := by
  unfold hv
  rw [Nat.pow_succ, ← Nat.div_div_eq_div_mul]
  generalize M / 2 ^ k = x
  rw [Int.tdiv_eq_ediv_of_nonneg (by omega)]
  omega
theorem half_wrap (M k : Nat) (h : M < 9007199254740992) : IntKind.u64.wrap ((hv M k : Nat) : Int) = ((hv M k : Nat) : Int) := by
  have := Nat.div_le_self M (2 ^ k)
  unfold hv
  generalize M / 2 ^ k = x at *
  exact IntWalk.u64_in _ (by omega)
theorem hv_zero (M : Nat) : hv M 0 = M := by simp [hv]
/-- The document's test of a budget, where sign, exponent and fraction say it at once. -/
theorem sg_div {b : Nat} (hb : b < 18446744073709551616) : ((b : Int) / 9223372036854775808) = if Fl.sg b then 1 else 0 := by
  unfold Fl.sg
  by_cases h : b < 9223372036854775808
  · have e : b / 9223372036854775808 = 0 := Nat.div_eq_of_lt h
    rw [e]; simp; omega
  · have e : b / 9223372036854775808 = 1 := by omega
    rw [e]; simp; omega
theorem i64_and2047 (n : Int) : bits .and .i64 n 2047 = n % 2048 := by
  have h1 : (BitVec.ofInt 64 2047).toNat = 2 ^ 11 - 1 := by decide
  have key : (BitVec.ofInt 64 n &&& BitVec.ofInt 64 2047).toNat = (n % ((2 ^ 64 : Nat) : Int)).toNat % 2 ^ 11 := by
    rw [BitVec.toNat_and, BitVec.toNat_ofInt, h1, Nat.and_two_pow_sub_one_eq_mod]
  show IntKind.i64.wrap ((BitVec.ofInt 64 n &&& BitVec.ofInt 64 2047).toNat : Nat) = n % 2048
  rw [key, IntKind.wrap_i64]
  omega
theorem ex_and (b : Nat) : bits .and .i64 (b / 4503599627370496 : Int) 2047 = (Fl.ex b : Int) := by
  rw [i64_and2047]
  unfold Fl.ex
  omega
theorem fr_and {b : Nat} (hb : b < 18446744073709551616) : bits .and .u64 (b : Int) 4503599627370495 = (Fl.fr b : Int) := by
  have := u64_and_nat b 4503599627370495 hb (by omega)
  have e : ((4503599627370495 : Nat) : Int) = 4503599627370495 := rfl
  rw [e] at this
  rw [this]
  have := Nat.and_two_pow_sub_one_eq_mod b 52
  have e2 : 2 ^ 52 - 1 = 4503599627370495 := by decide
  rw [e2] at this
  rw [this]
  rfl

set_option maxRecDepth 100000 in
set_option maxHeartbeats 1600000 in
theorem raff_any (b n : Nat) (hb : b < 18446744073709551616) (hn : n ≤ 18446744073709551615) (w : World) : Calls Try.prog 23 #[.float .f64 b, .int .u64 n] w fun e w' => e = .returned (.bool (decide (n ≤ Fl.aff b))) ∧ w = w' := by
  by_cases h0 : n = 0
  · subst h0
    rw [decide_eq_true (by omega)]
    clear hb
    go_enter Try.func23, Try.ntmps23
    go_wp2
    go_ret
    exact ⟨rfl, rfl⟩
  · have hsg := sg_div hb
    have hex := ex_and b
    have hfr := fr_and hb
    have hE := Fl.ex_lt b
    have hF := Fl.fr_lt b
    have hwr : IntKind.i64.wrap ((b : Int) / 4503599627370496) = (b : Int) / 4503599627370496 := IntWalk.i64_in _ (by omega)
    cases hs : Fl.sg b
    · have HS : ((b : Int) / 9223372036854775808) = 0 := by rw [hsg, hs]; rfl
      clear hsg
      have hdec : decide (n ≤ Fl.aff b) = decide (n ≤ Fl.aff b) := rfl
      have hA : ∀ x, Fl.aff b = x → decide (n ≤ Fl.aff b) = decide (n ≤ x) := fun x h => by rw [h]
      have hneg : ¬ (Fl.sg b = true ∨ Fl.Nan b) ∨ Fl.Nan b := by
        by_cases h : Fl.Nan b
        · exact Or.inr h
        · exact Or.inl (by rintro (g | g); · rw [hs] at g; cases g
                           · exact h g)
      have hst := hs
      clear hs hdec
      rcases hneg with hneg | hnan
      rotate_left
      · have ha : Fl.aff b = 0 := by unfold Fl.aff; rw [if_pos (Or.inr hnan)]
        rw [hA 0 ha, decide_eq_false (by omega)]
        have e1 : (Fl.ex b : Int) = 2047 := by have := hnan.1; omega
        have e2 : ((Fl.fr b : Int) != 0) = true := by rw [bne_iff_ne]; have := hnan.2; omega
        rw [e1] at hex
        clear hE hF ha hA hnan hst e1
        go_enter Try.func23, Try.ntmps23
        go_wp2
        go_ret
        exact ⟨rfl, rfl⟩
      · have ha : Fl.aff b = min (Fl.whole b) 18446744073709551615 := by unfold Fl.aff; rw [if_neg hneg]
        have hcase : (Fl.ex b = 0 ∧ Fl.fr b = 0) ∨ (Fl.ex b = 0 ∧ Fl.fr b ≠ 0) ∨ (0 < Fl.ex b ∧ Fl.ex b < 1023) ∨ (1023 ≤ Fl.ex b ∧ Fl.ex b < 1075) ∨ (1075 ≤ Fl.ex b ∧ Fl.ex b < 1087) ∨ (1087 ≤ Fl.ex b ∧ Fl.ex b < 2047) ∨ (Fl.ex b = 2047 ∧ Fl.fr b = 0) := by
          by_cases g : Fl.fr b = 0
          · omega
          · by_cases g2 : Fl.ex b = 2047
            · exact absurd (Or.inr ⟨g2, g⟩) hneg
            · omega
        clear hneg hst
        rcases hcase with ⟨c1, c2⟩ | ⟨c1, c2⟩ | ⟨c1, c2⟩ | ⟨c1, c2⟩ | ⟨c1, c2⟩ | ⟨c1, c2⟩ | ⟨c1, c2⟩
        · have hw := Fl.whole_small b (by omega)
          rw [hA 0 (by omega), decide_eq_false (by omega)]
          have e1 : (Fl.ex b : Int) = 0 := by omega
          have e2 : (Fl.fr b : Int) = 0 := by omega
          rw [e1] at hex
          rw [e2] at hfr
          clear hE hF ha hA hw e1 e2 c1 c2
          go_enter Try.func23, Try.ntmps23
          go_wp2
          go_ret
          exact ⟨rfl, rfl⟩
        · have hw := Fl.whole_small b (by omega)
          rw [hA 0 (by omega), decide_eq_false (by omega)]
          have e1 : (Fl.ex b : Int) = 0 := by omega
          have e2 : ((Fl.fr b : Int) == 0) = false := by rw [beq_eq_false_iff_ne]; omega
          rw [e1] at hex
          clear hE hF ha hA hw e1 c1 c2
          go_enter Try.func23, Try.ntmps23
          go_wp2
          go_ret
          exact ⟨rfl, rfl⟩
        · have hw := Fl.whole_small b (by omega)
          rw [hA 0 (by omega), decide_eq_false (by omega)]
          have e1 : ((Fl.ex b : Int) == 2047) = false := by rw [beq_eq_false_iff_ne]; omega
          have e2 : ((Fl.ex b : Int) == 0) = false := by rw [beq_eq_false_iff_ne]; omega
          clear hE hF ha hA hw c1
          go_enter Try.func23, Try.ntmps23
          go_wp2
          go_ret
          exact ⟨rfl, rfl⟩
        · have hw := Fl.whole_down b (by omega) (by omega)
          obtain ⟨j, hj⟩ : ∃ j : Nat, Fl.ex b + j = 1075 := ⟨1075 - Fl.ex b, by omega⟩
          rw [show 1075 - Fl.ex b = j from by omega] at hw
          have hlt : Fl.whole b < 18446744073709551616 := by
            have := Nat.div_le_self (4503599627370496 + Fl.fr b) (2 ^ j)
            omega
          rw [hA (hv (4503599627370496 + Fl.fr b) j) (by unfold hv; omega)]
          have w3 : IntKind.i64.wrap ((Fl.ex b : Int) - 1023 - 52) = -(j : Int) := by rw [IntWalk.i64_in _ (by omega)]; omega
          have e1 : ((Fl.ex b : Int) == 2047) = false := by rw [beq_eq_false_iff_ne]; omega
          have e2 : ((Fl.ex b : Int) == 0) = false := by rw [beq_eq_false_iff_ne]; omega
          have w1 : IntKind.u64.wrap ((Fl.fr b : Int) + 4503599627370496) = ((4503599627370496 + Fl.fr b : Nat) : Int) := by rw [IntWalk.u64_in _ (by omega)]; omega
          have w2 : IntKind.i64.wrap ((Fl.ex b : Int) - 1023) = (Fl.ex b : Int) - 1023 := IntWalk.i64_in _ (by omega)
          have hM : 4503599627370496 + Fl.fr b < 9007199254740992 := by omega
          have hj52 : j ≤ 52 := by omega
          generalize 4503599627370496 + Fl.fr b = M at *
          clear hE hF ha hA hw hlt hj
          go_enter Try.func23, Try.ntmps23
          have q1 : decide ((0 : Int) < -(j : Int)) = false := decide_eq_false (by omega)
          go_wp2
          refine wp_loop_rounds 1 ?_
          rw [rounds_succ]
          go_wp2
          clear q1
          go_loop [9, 12] (fun v i => ∃ k : Nat, k ≤ j ∧ v = .int .u64 ((hv M k : Nat) : Int) ∧ i = .int .i64 (-(k : Int))) (fun _ i => (j + intOf i).toNat)
          case atStart => exact ⟨0, by omega, by rw [hv_zero], rfl⟩
          case round =>
            obtain ⟨k, hk, rfl, rfl⟩ := hrel
            by_cases hl : k < j
            · have q2 : decide (-(j : Int) < -(k : Int)) = true := decide_eq_true (by omega)
              have q3 : IntKind.i64.wrap (-(k : Int) - 1) = -((k + 1 : Nat) : Int) := by rw [IntWalk.i64_in _ (by omega)]; omega
              have q4 := half M k
              have q6 := half_wrap M (k + 1) hM
              go_wp2
              go_round
              case rel => exact ⟨k + 1, by omega, rfl, rfl⟩
              case measure => simp [intOf]; omega
            · have ek : k = j := by omega
              subst ek
              have q2 : decide (-(k : Int) < -(k : Int)) = false := decide_eq_false (by omega)
              go_wp2
              go_ret
              exact ⟨by simp, rfl⟩
        · have hw := Fl.whole_up b (by omega)
          obtain ⟨j, hj⟩ : ∃ j : Nat, Fl.ex b = 1075 + j := ⟨Fl.ex b - 1075, by omega⟩
          rw [show Fl.ex b - 1075 = j from by omega] at hw
          have hj11 : j ≤ 11 := by omega
          have hU := uv_lt (4503599627370496 + Fl.fr b) j (by omega) hj11
          rw [hA (uv (4503599627370496 + Fl.fr b) j) (by unfold uv at *; omega)]
          have w3 : IntKind.i64.wrap ((Fl.ex b : Int) - 1023 - 52) = (j : Int) := by rw [IntWalk.i64_in _ (by omega)]; omega
          have e1 : ((Fl.ex b : Int) == 2047) = false := by rw [beq_eq_false_iff_ne]; omega
          have e2 : ((Fl.ex b : Int) == 0) = false := by rw [beq_eq_false_iff_ne]; omega
          have w1 : IntKind.u64.wrap ((Fl.fr b : Int) + 4503599627370496) = ((4503599627370496 + Fl.fr b : Nat) : Int) := by rw [IntWalk.u64_in _ (by omega)]; omega
          have w2 : IntKind.i64.wrap ((Fl.ex b : Int) - 1023) = (Fl.ex b : Int) - 1023 := IntWalk.i64_in _ (by omega)
          have hM : 4503599627370496 + Fl.fr b < 9007199254740992 := by omega
          have HU := Lib.hid (fun k (h : k ≤ 11) => uv_lt (4503599627370496 + Fl.fr b) k hM h)
          generalize 4503599627370496 + Fl.fr b = M at *
          clear hE hF ha hA hw hU hj
          go_enter Try.func23, Try.ntmps23
          go_wp2
          go_loop [9, 11] (fun v i => ∃ k : Nat, k ≤ j ∧ v = .int .u64 ((uv M k : Nat) : Int) ∧ i = .int .i64 k) (fun _ i => (j - intOf i).toNat)
          case atStart => exact ⟨0, by omega, by rw [uv_zero], rfl⟩
          case round =>
            obtain ⟨k, hk, rfl, rfl⟩ := hrel
            by_cases hl : k < j
            · have q4 := uv_succ M k (HU.out (k + 1) (by omega))
              go_wp2
              go_round
              case rel => exact ⟨k + 1, by omega, rfl, by go_num⟩
              case measure => simp [intOf]; omega
            · have ek : k = j := by omega
              subst ek
              have q2 : decide ((k : Int) < 0) = false := decide_eq_false (by omega)
              go_wp2
              refine wp_loop_rounds 1 ?_
              rw [rounds_succ]
              go_wp2
              go_ret
              exact ⟨by simp, rfl⟩
        · have hw := Fl.whole_big2 b (by omega)
          rw [hA 18446744073709551615 (by omega), decide_eq_true hn]
          have e1 : ((Fl.ex b : Int) == 2047) = false := by rw [beq_eq_false_iff_ne]; omega
          have e2 : ((Fl.ex b : Int) == 0) = false := by rw [beq_eq_false_iff_ne]; omega
          have e3 : (1087 : Int) ≤ (Fl.ex b : Int) := by omega
          clear hE hF ha hA hw
          go_enter Try.func23, Try.ntmps23
          go_wp2
          go_ret
          exact ⟨rfl, rfl⟩
        · have hw := Fl.whole_big2 b (by omega)
          rw [hA 18446744073709551615 (by omega), decide_eq_true hn]
          have e1 : (Fl.ex b : Int) = 2047 := by omega
          have e2 : (Fl.fr b : Int) = 0 := by omega
          rw [e1] at hex
          rw [e2] at hfr
          clear hE hF ha hA hw e1 e2 c1 c2
          go_enter Try.func23, Try.ntmps23
          go_wp2
          go_ret
          exact ⟨rfl, rfl⟩
    · rw [hs] at hsg
      have ha : Fl.aff b = 0 := by unfold Fl.aff; rw [if_pos (Or.inl hs)]
      rw [ha, decide_eq_false (by omega)]
      simp only [if_true] at hsg
      clear hE hF hs ha
      go_enter Try.func23, Try.ntmps23
      go_wp2
      go_ret
      exact ⟨rfl, rfl⟩
end Go.Proofs.Ytjcjalobbgkcpaa
