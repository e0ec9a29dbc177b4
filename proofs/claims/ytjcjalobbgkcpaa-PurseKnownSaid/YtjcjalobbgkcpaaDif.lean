/-
  What is left, as numbers: the difference of a whole part and a small whole number, rounded. No program in sight.
-/
import Derived.Test.YtjcjalobbgkcpaaOrd
import Derived.Laws.Cover2
namespace Go.Proofs.Ytjcjalobbgkcpaa
set_option exponentiation.threshold 3000
namespace Fl
open Ieee

/-- A number that is at least 2 to the 51 is no less when it is rounded. -/
theorem near_big (mag : Nat) (place : Int) (h : mag ≠ 0) (hp : 51 ≤ place + mag.log2) : 4836865999795912704 ≤ double.nearest false mag place ∧ double.nearest false mag place ≤ 9218868437227405312 := by
  rw [nearest_eq _ _ _ h, word_f]
  refine ⟨?_, by omega⟩
  have e1 : max (place + (mag.log2 : Int) - 52) (-1074) = place + (mag.log2 : Int) - 52 := by omega
  rw [e1]
  have hl := Nat.log2_self_le h
  have hcut : ∀ n d : Nat, n / 2 ^ d ≤ Toward.even.cut false n d := by
    intro n d
    have e : Toward.even.cut false n d = n / (1 <<< min d (n.log2 + 2)) + _ := rfl
    rw [e, shl, Nat.one_mul]
    by_cases hd : d ≤ n.log2 + 2
    · rw [Nat.min_eq_left hd]; exact Nat.le_add_right _ _
    · have h1 : n < 2 ^ (n.log2 + 1) := Nat.lt_log2_self
      have h3 : 2 ^ (n.log2 + 1) ≤ 2 ^ d := Nat.pow_le_pow_right (by omega) (by omega)
      rw [Nat.div_eq_of_lt (by omega)]; exact Nat.zero_le _
  have hk : 4503599627370496 ≤ Toward.even.cut false (mag <<< (place - (place + (mag.log2 : Int) - 52)).toNat) (place + (mag.log2 : Int) - 52 - place).toNat := by
    refine Nat.le_trans ?_ (hcut _ _)
    rw [shl]
    by_cases g : mag.log2 ≤ 52
    · have t1 : (place - (place + (mag.log2 : Int) - 52)).toNat = 52 - mag.log2 := by omega
      have t2 : (place + (mag.log2 : Int) - 52 - place).toNat = 0 := by omega
      rw [t1, t2, Nat.pow_zero, Nat.div_one]
      have : 2 ^ mag.log2 * 2 ^ (52 - mag.log2) = 4503599627370496 := by rw [← Nat.pow_add, show mag.log2 + (52 - mag.log2) = 52 from by omega]
      rw [← this]; exact Nat.mul_le_mul_right _ hl
    · have t1 : (place - (place + (mag.log2 : Int) - 52)).toNat = 0 := by omega
      have t2 : (place + (mag.log2 : Int) - 52 - place).toNat = mag.log2 - 52 := by omega
      rw [t1, t2, Nat.pow_zero, Nat.mul_one, Nat.le_div_iff_mul_le (two_pos _)]
      have : 4503599627370496 * 2 ^ (mag.log2 - 52) = 2 ^ mag.log2 := by rw [show 4503599627370496 = 2 ^ 52 from by decide, ← Nat.pow_add, show 52 + (mag.log2 - 52) = mag.log2 from by omega]
      rw [this]; exact hl
  generalize Toward.even.cut false (mag <<< (place - (place + (mag.log2 : Int) - 52)).toNat) (place + (mag.log2 : Int) - 52 - place).toNat = K at hk
  have : 1073 ≤ (place + (mag.log2 : Int) - 52 - -1074).toNat := by omega
  omega
/-- Floor of a finite word that is not below zero: its whole part. -/
theorem floor_facts (b : Nat) (hs : sg b = false) (he : ex b < 2047) : sg (double.write ((double.read b).integral .down)) = false ∧ ex (double.write ((double.read b).integral .down)) < 2047 ∧ V (double.write ((double.read b).integral .down)) = whole b * ONE := by
  by_cases h : ex b < 1900
  · rw [floor_eq b hs he]
    exact nw_facts _ (whole_fits b h)
  · have hf := fr_lt b
    rw [read_norm b (by omega) he, hs]
    simp only [Datum.integral]
    have t1 : ((ex b : Int) - 1075).toNat = ex b - 1075 := by omega
    have t2 : (-((ex b : Int) - 1075)).toNat = 0 := by omega
    rw [t1, t2, cut_zero .down (Or.inl rfl), Nat.pow_zero, Nat.div_one, shl]
    show sg (double.nearest false _ 0) = false ∧ ex (double.nearest false _ 0) < 2047 ∧ V (double.nearest false _ 0) = _
    have e := nearest_up false (4503599627370496 + fr b) (ex b - 1) (ex b - 1075) (by omega) (by omega) (by omega)
    have e0 : ((ex b - 1 : Nat) : Int) - 1074 - ((ex b - 1075 : Nat) : Int) = 0 := by omega
    rw [e0] at e
    rw [e]
    obtain ⟨f1, f2, f3, f4⟩ := wd_facts false (4503599627370496 + fr b) (ex b - 1) (by omega) (by omega) (by omega)
    refine ⟨f2, by omega, ?_⟩
    rw [f3]
    have : whole b = (4503599627370496 + fr b) * 2 ^ (ex b - 1075) := by
      unfold whole V mg pl ONE
      rw [if_neg (by omega)]
      have : ex b - 1 = (ex b - 1075) + 1074 := by omega
      rw [this, Nat.pow_add, ← Nat.mul_assoc, Nat.mul_div_cancel _ (two_pos _)]
    rw [this]
    unfold ONE
    rw [Nat.mul_assoc, ← Nat.pow_add, show ex b - 1075 + 1074 = ex b - 1 from by omega]
/-- The difference of two finite words that are not below zero, the first no less: the exact one, rounded. -/
theorem sub_fin (x y : Nat) (hx : sg x = false) (hy : sg y = false) (ex1 : ex x < 2047) (ey1 : ex y < 2047) (h : V y ≤ V x) (hp : pl y ≤ 1074) :
    ∃ j T : Nat, double.sub x y = some (double.nearest false T (-(j : Int))) ∧ T * 2 ^ (1074 - j) = V x - V y ∧ j ≤ 1074 := by
  unfold Format.sub
  rw [read_fin x ex1, read_fin y ey1, hx, hy]
  have hm : min ((pl x : Int) - 1074) ((pl y : Int) - 1074) = -((1074 - min (pl x) (pl y) : Nat) : Int) := by omega
  simp only [Datum.opposite, Bool.not_false, Datum.sum]
  rw [hm]
  have t1 : ((pl x : Int) - 1074 - -((1074 - min (pl x) (pl y) : Nat) : Int)).toNat = pl x - min (pl x) (pl y) := by omega
  have t2 : ((pl y : Int) - 1074 - -((1074 - min (pl x) (pl y) : Nat) : Int)).toNat = pl y - min (pl x) (pl y) := by omega
  rw [t1, t2]
  have vx : V x = mg x * 2 ^ (pl x - min (pl x) (pl y)) * 2 ^ min (pl x) (pl y) := by unfold V; rw [Nat.mul_assoc, ← Nat.pow_add, Nat.sub_add_cancel (Nat.min_le_left _ _)]
  have vy : V y = mg y * 2 ^ (pl y - min (pl x) (pl y)) * 2 ^ min (pl x) (pl y) := by unfold V; rw [Nat.mul_assoc, ← Nat.pow_add, Nat.sub_add_cancel (Nat.min_le_right _ _)]
  have s1 : signed false (mg x) (pl x - min (pl x) (pl y)) = ((mg x * 2 ^ (pl x - min (pl x) (pl y)) : Nat) : Int) := by unfold signed; rw [shl]; simp
  have s2 : signed true (mg y) (pl y - min (pl x) (pl y)) = -((mg y * 2 ^ (pl y - min (pl x) (pl y)) : Nat) : Int) := by unfold signed; rw [shl]; simp
  rw [s1, s2]
  rw [vx, vy] at h
  have hle : mg y * 2 ^ (pl y - min (pl x) (pl y)) ≤ mg x * 2 ^ (pl x - min (pl x) (pl y)) := Nat.le_of_mul_le_mul_right h (two_pos _)
  refine ⟨1074 - min (pl x) (pl y), mg x * 2 ^ (pl x - min (pl x) (pl y)) - mg y * 2 ^ (pl y - min (pl x) (pl y)), ?_, ?_, by omega⟩
  · generalize mg x * 2 ^ (pl x - min (pl x) (pl y)) = p at hle ⊢
    generalize mg y * 2 ^ (pl y - min (pl x) (pl y)) = q at hle ⊢
    have hn : ((p : Int) + -(q : Int)).natAbs = p - q := by omega
    by_cases hz : p = q
    · have hz2 : (p : Int) + -(q : Int) = 0 := by omega
      rw [if_pos hz2, hn]
      rfl
    · have hz2 : ¬ (p : Int) + -(q : Int) = 0 := by omega
      have hz3 : ¬ (p : Int) + -(q : Int) < 0 := by omega
      rw [if_neg hz2, hn]
      simp only [Option.map, Format.write]
      rw [decide_eq_false hz3]
  · rw [vx, vy, Nat.sub_mul]
    rw [show 1074 - (1074 - min (pl x) (pl y)) = min (pl x) (pl y) from by omega]
end Fl
end Go.Proofs.Ytjcjalobbgkcpaa
