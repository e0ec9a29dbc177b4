/-
  What is left, as a word: facts. No program in sight.
-/
import Derived.Test.YtjcjalobbgkcpaaDif
import Derived.Laws.FloatArith
namespace Go.Proofs.Ytjcjalobbgkcpaa
set_option exponentiation.threshold 3000
namespace Fl
open Ieee

theorem ofInt_nw (s : Nat) : floatOfInt .f64 (s : Int) = nw s := by
  unfold floatOfInt
  show double.write (.number (decide ((s : Int) < 0)) ((s : Int)).natAbs 0) = _
  rw [decide_eq_false (by omega)]
  rfl
theorem pow_split (c k : Nat) : 2 ^ (c + 1 + k) = 2 ^ c * (2 * 2 ^ k) := by rw [Nat.pow_add, Nat.pow_add, Nat.mul_assoc, Nat.pow_one]
theorem nw_pl (s : Nat) (h : s < 9007199254740992) : pl (nw s) ≤ 1074 := by
  obtain ⟨f1, f2, f3⟩ := nw_facts s (Or.inl h)
  by_cases g : pl (nw s) ≤ 1074
  · exact g
  · have h1 : ¬ ex (nw s) = 0 := by unfold pl at g; omega
    have h2 : V (nw s) = (4503599627370496 + fr (nw s)) * 2 ^ pl (nw s) := by unfold V mg; rw [if_neg h1]
    rw [f3] at h2
    obtain ⟨k, hk⟩ : ∃ k, pl (nw s) = 1074 + 1 + k := ⟨pl (nw s) - 1075, by omega⟩
    have hp : 2 ^ pl (nw s) = ONE * (2 * 2 ^ k) := by rw [hk]; exact pow_split 1074 k
    rw [hp, Nat.mul_left_comm, Nat.mul_comm s] at h2
    have h4 := Nat.eq_of_mul_eq_mul_left one_pos h2
    have h5 : 4503599627370496 * (2 * 1) ≤ (4503599627370496 + fr (nw s)) * (2 * 2 ^ k) := Nat.mul_le_mul (by omega) (Nat.mul_le_mul_left _ (two_pos k))
    omega
theorem wd_val (M P : Nat) : wd false M P = P * 4503599627370496 + M := rfl
theorem near_zero (p : Int) : double.nearest false 0 p = 0 := by unfold Format.nearest; rw [if_pos rfl]; rfl
theorem near_same (n j : Nat) (h : n < 9007199254740992) : double.nearest false (n * 2 ^ j) (-(j : Int)) = nw n := by
  by_cases h0 : n = 0
  · subst h0; rw [Nat.zero_mul, near_zero, nw_zero]
  · obtain ⟨M, P, e1, a1, a2, a3, a4⟩ := near_int false n j (by omega) (Or.inl h)
    obtain ⟨M', P', e1', b1, b2, b3, b4⟩ := near_int false n 0 (by omega) (Or.inl h)
    have e2 : nw n = wd false M' P' := by
      rw [← e1', Nat.pow_zero, Nat.mul_one]; rfl
    rw [e1, e2]
    obtain ⟨_, _, v1, r1⟩ := wd_facts false M P a1 a2 a3
    obtain ⟨_, _, v2, r2⟩ := wd_facts false M' P' b1 b2 b3
    have hv : V (wd false M P) = V (wd false M' P') := by rw [v1, v2, a4, b4]
    have hr := V_eq_iff.1 hv
    rw [r1, r2] at hr
    rw [wd_val, wd_val]; exact hr
theorem log_two (n j : Nat) (h : 2251799813685248 ≤ n) : 51 + j ≤ (n * 2 ^ j).log2 := by
  have hp := two_pos j
  have h0 : n * 2 ^ j ≠ 0 := Nat.mul_ne_zero (by omega) (by omega)
  refine (Nat.le_log2 h0).2 ?_
  rw [Nat.pow_add]
  exact Nat.mul_le_mul_right _ h
/-- What is left of a budget above zero, as a word: great, or the word of the difference. -/
theorem lf_facts (b s : Nat) (hgt : double.order b 0 = some .gt) (hs : s ≤ aff b) (h53 : s < 9007199254740992) :
    ¬ Nan b ∧ ∃ y, double.sub (double.write ((double.read b).integral .down)) (floatOfInt .f64 s) = some y ∧
      ((4836865999795912704 ≤ y ∧ y ≤ 9218868437227405312) ∨ (y = nw (whole b - s) ∧ whole b - s < 9007199254740992 ∧ aff b = min (whole b) 18446744073709551615 ∧ s ≤ whole b)) := by
  rw [ofInt_nw]
  have hc : sg b = false ∧ ¬ Nan b := by
    rcases aff_cases b with h | h | h | h | h | h <;> rw [h.2.1] at hgt
    · cases hgt
    · cases hgt
    · cases hgt
    · exact ⟨h.2.2.1, fun g => by have := g.1; have := h.2.2.2.1; omega⟩
    · exact ⟨h.2.2.1, h.2.2.2.1⟩
    · exact ⟨h.2.2.1, h.2.2.2.1⟩
  obtain ⟨hsg, hnn⟩ := hc
  refine ⟨hnn, ?_⟩
  obtain ⟨n1, n2, n3⟩ := nw_facts s (Or.inl h53)
  have haff : aff b = min (whole b) 18446744073709551615 := by
    unfold aff; rw [if_neg (by rintro (g | g)
                               · rw [hsg] at g; cases g
                               · exact hnn g)]
  rcases fin_or hnn with hf | ⟨hi, hi2⟩
  · obtain ⟨f1, f2, f3⟩ := floor_facts b hsg hf
    have hle : V (nw s) ≤ V (double.write ((double.read b).integral .down)) := by
      rw [n3, f3]; exact Nat.mul_le_mul_right _ (by omega)
    obtain ⟨j, T, e1, e2, e3⟩ := sub_fin _ _ f1 n1 f2 n2 hle (nw_pl s h53)
    refine ⟨_, e1, ?_⟩
    rw [f3, n3, ← Nat.sub_mul] at e2
    have hT : T = (whole b - s) * 2 ^ j := by
      refine Nat.eq_of_mul_eq_mul_right (two_pos (1074 - j)) ?_
      rw [e2]; unfold ONE
      rw [Nat.mul_assoc, ← Nat.pow_add, show j + (1074 - j) = 1074 from by omega]
    rw [hT]
    by_cases hn : whole b - s < 9007199254740992
    · right; exact ⟨near_same _ _ hn, hn, haff, by omega⟩
    · left
      have := log_two (whole b - s) j (by omega)
      refine near_big _ _ (Nat.mul_ne_zero (by omega) (by have := two_pos j; omega)) (by omega)
  · refine ⟨9218868437227405312, ?_, Or.inl ⟨by omega, by omega⟩⟩
    have r1 := read_inf b hi hi2
    rw [r1, hsg]
    have w1 : double.write ((Datum.infinity false).integral .down) = 9218868437227405312 := by decide +kernel
    rw [w1]
    unfold Format.sub
    have r2 : double.read 9218868437227405312 = .infinity false := by decide +kernel
    rw [r2, read_fin _ n2]
    rfl
/-- No NaN, and not below zero. -/
theorem fine_of {y : Nat} (h : y ≤ 9218868437227405312) : sg y = false ∧ ¬ Nan y ∧ key y = y := by
  have h1 : sg y = false := sg_pos (by omega)
  have h2 : rung y = y := by rw [rung_eq]; omega
  refine ⟨h1, ?_, by rw [key_f h1, h2]⟩
  rintro ⟨g1, g2⟩
  have : y = 9218868437227405312 := by
    have e : rung y = ex y * 4503599627370496 + fr y := rfl
    rw [h2, g1] at e
    omega
  subst this
  exact g2 (by decide)
theorem nw_le (n : Nat) (h : n < 9007199254740992) : nw n ≤ 9218868437227405312 := by
  by_cases h0 : n = 0
  · subst h0; rw [nw_zero]; omega
  · obtain ⟨M', P', e1', b1, b2, b3, b4⟩ := near_int false n 0 (by omega) (Or.inl h)
    have e2 : nw n = wd false M' P' := by
      rw [← e1', Nat.pow_zero, Nat.mul_one]; rfl
    rw [e2, wd_val]; omega
/-- Max of 0 and such a word: the word. -/
theorem pick_max (y : Nat) (h : y ≤ 9218868437227405312) : Extern.MathDim.pick "math.archMax" false .gt #[.float .f64 0, .float .f64 y] = pure (.float .f64 y) := by
  obtain ⟨h1, h2, h3⟩ := fine_of h
  have z1 : ¬ Nan 0 := by decide
  have z2 : key 0 = 0 := by decide
  have ho := ord_key z1 h2
  rw [z2, h3] at ho
  have r0 : FloatKind.f64.decode 0 = .number false 0 (-1074) := by decide +kernel
  show (let a := FloatKind.f64.decode 0
        let b := FloatKind.f64.decode y
        let r : Nat := if a == .infinity false || b == .infinity false then FloatKind.f64.encode (.infinity false) else if a.isNaN || b.isNaN then 0x7FF8000000000001 else if a.isZero && b.isZero then (if a.neg == false then 0 else y) else if a.order b == some .gt then 0 else y
        (pure (.float .f64 r) : Sem Value)) = _
  rcases fin_or h2 with hf | ⟨hi, hi2⟩
  · have r1 : FloatKind.f64.decode y = .number (sg y) (mg y) ((pl y : Int) - 1074) := read_fin y hf
    have ho2 : (Datum.number false 0 (-1074)).order (.number (sg y) (mg y) ((pl y : Int) - 1074)) = some (compare 0 (y : Int)) := by
      have := ho
      unfold Format.order at this
      rw [show double.read 0 = .number false 0 (-1074) from r0, show double.read y = _ from r1] at this
      exact this
    simp only [r0, r1, ho2]
    have c1 : (Datum.number false 0 (-1074) == Datum.infinity false) = false := by decide
    have c2 : (Datum.number (sg y) (mg y) ((pl y : Int) - 1074) == Datum.infinity false) = false := by rw [beq_eq_false_iff_ne]; intro e; cases e
    rw [c1, c2]
    simp only [Bool.or_self, Bool.false_eq_true, if_false, Datum.isNaN]
    by_cases hz : mg y = 0
    · have hy : y = 0 := by
        have : V y = 0 := by unfold V; rw [hz, Nat.zero_mul]
        have := (V_rung0 y).1 this
        rw [rung_eq] at this; omega
      subst hy
      rfl
    · have c3 : (Datum.number (sg y) (mg y) ((pl y : Int) - 1074)).isZero = false := by
        unfold Datum.isZero; split
        · rename_i e; injection e with _ e2 _; exact absurd e2 hz
        · rfl
      have hy : 0 < (y : Int) := by
        have : y ≠ 0 := by rintro rfl; exact hz (by decide)
        omega
      rw [c3, Int.compare_eq_lt.2 hy]
      simp
  · have r1 : FloatKind.f64.decode y = .infinity (sg y) := read_inf y hi hi2
    simp only [r0, r1, h1]
    have hy : y = 9218868437227405312 := by
      have := rung_inf hi hi2
      rw [rung_eq] at this; omega
    subst hy
    have e : FloatKind.f64.encode (.infinity false) = 9218868437227405312 := by decide +kernel
    simp [e]
theorem ord_self {y : Nat} (h : ¬ Nan y) : double.order y y = some .eq := by rw [ord_key h h, Int.compare_eq_eq.2 rfl]
theorem lim_fine : (4832362400168542208 : Nat) ≤ 9218868437227405312 := by omega
theorem ord_lim {y : Nat} (h1 : 4836865999795912704 ≤ y) (h2 : y ≤ 9218868437227405312) : double.order y 4832362400168542208 = some .gt := by
  obtain ⟨_, a, b⟩ := fine_of h2
  obtain ⟨_, c, d⟩ := fine_of lim_fine
  rw [ord_key a c, b, d, Int.compare_eq_gt.2 (by omega)]
theorem V_lim : V 4832362400168542208 = 1125899906842624 * ONE := by
  have h1 : ex 4832362400168542208 = 1073 := by decide
  have h2 : fr 4832362400168542208 = 0 := by decide
  unfold V mg pl ONE
  rw [h1, h2, if_neg (by omega)]
theorem nw_key (n : Nat) (h : n < 9007199254740992) (m : Nat) (hm : m ≤ 9218868437227405312) (k : Nat) (hk : V m = k * ONE) : double.order (nw n) m = some (compare (n : Int) (k : Int)) := by
  obtain ⟨f1, f2, f3⟩ := nw_facts n (Or.inl h)
  obtain ⟨_, a, b⟩ := fine_of (nw_le n h)
  obtain ⟨_, c, d⟩ := fine_of hm
  rw [ord_key a c, b, d]
  have r1 : rung (nw n) = nw n := by rw [rung_eq]; have := nw_le n h; omega
  have r2 : rung m = m := by rw [rung_eq]; omega
  have h1 := V_lt_iff (a := nw n) (b := m)
  have h2 := V_eq_iff (a := nw n) (b := m)
  rw [f3, hk, r1, r2] at h1 h2
  congr 1
  refine cmp_same ?_ ?_
  · rw [Int.ofNat_lt, Int.ofNat_lt, ← h1]
    exact ⟨fun g => Nat.lt_of_mul_lt_mul_right g, fun g => Nat.mul_lt_mul_of_pos_right g one_pos⟩
  · rw [Int.ofNat_inj, Int.ofNat_inj, ← h2]
    exact ⟨fun g => Nat.eq_of_mul_eq_mul_right one_pos g, fun g => by rw [g]⟩
theorem nw_floor (n : Nat) (h : n < 9007199254740992) : double.write ((double.read (nw n)).integral .down) = nw n := by
  obtain ⟨f1, f2, f3⟩ := nw_facts n (Or.inl h)
  rw [floor_eq (nw n) f1 f2, whole_nw n (Or.inl h)]
theorem nw_int (n : Nat) (h : n < 9007199254740992) : floatToIntVal .f64 (nw n) .i64 = some (n : Int) := by
  obtain ⟨f1, f2, f3⟩ := nw_facts n (Or.inl h)
  have h2 : (FloatKind.f64.decode (nw n)).toInt .zero = some (whole (nw n) : Int) := toInt_eq _ f1 f2
  rw [whole_nw n (Or.inl h)] at h2
  unfold floatToIntVal
  rw [h2]
  have e1 : IntKind.i64.min = -9223372036854775808 := rfl
  have e2 : IntKind.i64.max = 9223372036854775807 := rfl
  simp only
  rw [e1, e2, if_pos (by omega)]
end Fl
end Go.Proofs.Ytjcjalobbgkcpaa
