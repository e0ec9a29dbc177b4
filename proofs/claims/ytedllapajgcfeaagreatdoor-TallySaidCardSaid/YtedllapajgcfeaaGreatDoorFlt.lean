/-
  Plain facts on float64 words as the model reads them: what a budget affords. No program in sight.
-/
import Derived.Laws.FloatArith
namespace Go.Proofs.YtedllapajgcfeaaGreatDoor
set_option exponentiation.threshold 3000
namespace Fl
open Ieee

def S63 : Nat := 9223372036854775808
def S52 : Nat := 4503599627370496
/-- The exponent field, the fraction field. -/
def ex (b : Nat) : Nat := b / 4503599627370496 % 2048
def fr (b : Nat) : Nat := b % 4503599627370496
def sg (b : Nat) : Bool := b / 9223372036854775808 % 2 == 1
theorem sw : double.signWeight = 9223372036854775808 := rfl
theorem bw : double.binade = 4503599627370496 := rfl
theorem iw : double.infRung = 9218868437227405312 := rfl
theorem lp : double.leastPlace = -1074 := rfl
theorem fb : double.fractionBits = 52 := rfl

theorem read_eq (b : Nat) : double.read b = if b % 9223372036854775808 < 4503599627370496 then .number (sg b) (b % 9223372036854775808) (-1074)
    else if b % 9223372036854775808 < 9218868437227405312 then .number (sg b) (4503599627370496 + b % 9223372036854775808 % 4503599627370496) (-1074 + ((b % 9223372036854775808 / 4503599627370496 - 1 : Nat) : Int))
    else if b % 9223372036854775808 = 9218868437227405312 then .infinity (sg b) else .nan (sg b) (b % 9223372036854775808 - 9218868437227405312) := rfl
theorem read_zero (b : Nat) (h : ex b = 0) : double.read b = .number (sg b) (fr b) (-1074) := by
  rw [read_eq]
  unfold ex at h
  have h1 : b % 9223372036854775808 < 4503599627370496 := by omega
  have h2 : b % 9223372036854775808 = fr b := by unfold fr; omega
  rw [if_pos h1, h2]
theorem read_norm (b : Nat) (h0 : 0 < ex b) (h1 : ex b < 2047) : double.read b = .number (sg b) (4503599627370496 + fr b) ((ex b : Int) - 1075) := by
  rw [read_eq]
  unfold ex at *
  have g1 : ¬ b % 9223372036854775808 < 4503599627370496 := by omega
  have g2 : b % 9223372036854775808 < 9218868437227405312 := by omega
  have g3 : b % 9223372036854775808 % 4503599627370496 = fr b := by unfold fr; omega
  have g4 : (-1074 : Int) + ((b % 9223372036854775808 / 4503599627370496 - 1 : Nat) : Int) = ((b / 4503599627370496 % 2048 : Nat) : Int) - 1075 := by omega
  rw [if_neg g1, if_pos g2, g3, g4]
theorem read_inf (b : Nat) (h0 : ex b = 2047) (h1 : fr b = 0) : double.read b = .infinity (sg b) := by
  rw [read_eq]
  unfold ex fr at *
  have g1 : ¬ b % 9223372036854775808 < 4503599627370496 := by omega
  have g2 : ¬ b % 9223372036854775808 < 9218868437227405312 := by omega
  have g3 : b % 9223372036854775808 = 9218868437227405312 := by omega
  rw [if_neg g1, if_neg g2, if_pos g3]
theorem read_nan (b : Nat) (h0 : ex b = 2047) (h1 : fr b ≠ 0) : ∃ t, double.read b = .nan (sg b) t := by
  rw [read_eq]
  unfold ex fr at *
  have g1 : ¬ b % 9223372036854775808 < 4503599627370496 := by omega
  have g2 : ¬ b % 9223372036854775808 < 9218868437227405312 := by omega
  have g3 : ¬ b % 9223372036854775808 = 9218868437227405312 := by omega
  rw [if_neg g1, if_neg g2, if_neg g3]; exact ⟨_, rfl⟩
theorem ex_lt (b : Nat) : ex b < 2048 := Nat.mod_lt _ (by omega)
theorem fr_lt (b : Nat) : fr b < 4503599627370496 := Nat.mod_lt _ (by omega)
theorem ex_cases (b : Nat) : ex b = 0 ∨ (0 < ex b ∧ ex b < 2047) ∨ (ex b = 2047 ∧ fr b = 0) ∨ (ex b = 2047 ∧ fr b ≠ 0) := by
  have := ex_lt b
  by_cases h : fr b = 0
  · omega
  · omega

/-- Magnitude and place of a finite word: 'mg * 2 ^ (pl - 1074)'. -/
def mg (b : Nat) : Nat := if ex b = 0 then fr b else 4503599627370496 + fr b
def pl (b : Nat) : Nat := ex b - 1
def V (b : Nat) : Nat := mg b * 2 ^ pl b
def sgn (s : Bool) (v : Nat) : Int := if s then -(v : Int) else v
theorem read_fin (b : Nat) (h : ex b < 2047) : double.read b = .number (sg b) (mg b) ((pl b : Int) - 1074) := by
  unfold mg pl
  by_cases h0 : ex b = 0
  · rw [read_zero b h0, if_pos h0, h0]; rfl
  · rw [read_norm b (by omega) h, if_neg h0]
    congr 1
    omega
/-- The lower bits: words of one sign stand as these. -/
def rung (b : Nat) : Nat := ex b * 4503599627370496 + fr b
theorem rung_eq (b : Nat) : rung b = b % 9223372036854775808 := by unfold rung ex fr; omega

/-! ### comparing -/
theorem shl (a b : Nat) : a <<< b = a * 2 ^ b := Nat.shiftLeft_eq a b
theorem two_pos (k : Nat) : 0 < 2 ^ k := Nat.two_pow_pos k
theorem V_mono {a b : Nat} (h : rung a < rung b) : V a < V b := by
  have ha := fr_lt a
  have hb := fr_lt b
  unfold rung at h
  unfold V mg pl
  by_cases he : ex a = ex b
  · rw [he] at h ⊢
    have hp := two_pos (ex b - 1)
    refine Nat.mul_lt_mul_of_pos_right ?_ hp
    split <;> omega
  · have hlt : ex a < ex b := by omega
    have e1 : ex b ≠ 0 := by omega
    rw [if_neg e1]
    by_cases h0 : ex a = 0
    · rw [if_pos h0, h0]
      have hp := two_pos (ex b - 1)
      have : 4503599627370496 * 1 ≤ (4503599627370496 + fr b) * 2 ^ (ex b - 1) := Nat.mul_le_mul (by omega) hp
      simp
      omega
    · rw [if_neg h0]
      obtain ⟨k, hk⟩ : ∃ k, ex b - 1 = (ex a - 1) + 1 + k := ⟨ex b - 1 - (ex a - 1) - 1, by omega⟩
      have hp := two_pos (ex a - 1)
      have hq := two_pos k
      have hm : 2 ^ (ex b - 1) = 2 ^ (ex a - 1) * (2 * 2 ^ k) := by rw [hk, Nat.pow_add, Nat.pow_add, Nat.mul_assoc]
      rw [hm]
      have h1 : (4503599627370496 + fr a) * 2 ^ (ex a - 1) < 9007199254740992 * 2 ^ (ex a - 1) := Nat.mul_lt_mul_of_pos_right (by omega) hp
      have h2 : 9007199254740992 * 2 ^ (ex a - 1) ≤ (4503599627370496 + fr b) * (2 ^ (ex a - 1) * (2 * 2 ^ k)) := by
        have : 4503599627370496 * (2 ^ (ex a - 1) * (2 * 1)) ≤ (4503599627370496 + fr b) * (2 ^ (ex a - 1) * (2 * 2 ^ k)) := Nat.mul_le_mul (by omega) (Nat.mul_le_mul_left _ (Nat.mul_le_mul_left _ hq))
        omega
      omega
theorem V_eq {a b : Nat} (h : rung a = rung b) : V a = V b := by
  have ha := fr_lt a
  have hb := fr_lt b
  unfold rung at h
  have e1 : ex a = ex b := by omega
  have e2 : fr a = fr b := by omega
  unfold V mg pl
  rw [e1, e2]
theorem V_lt_iff {a b : Nat} : V a < V b ↔ rung a < rung b := by
  constructor
  · intro h
    rcases Nat.lt_trichotomy (rung a) (rung b) with g | g | g
    · exact g
    · have := V_eq g; omega
    · have := V_mono g; omega
  · exact V_mono
theorem V_eq_iff {a b : Nat} : V a = V b ↔ rung a = rung b := by
  constructor
  · intro h
    rcases Nat.lt_trichotomy (rung a) (rung b) with g | g | g
    · have := V_mono g; omega
    · exact g
    · have := V_mono g; omega
  · exact V_eq
theorem cmp_scale (x y : Int) (k : Nat) (hk : 0 < k) : compare (x * k) (y * k) = compare x y := by
  rcases Int.lt_trichotomy x y with g | g | g
  · rw [Int.compare_eq_lt.2 g, Int.compare_eq_lt.2 (Int.mul_lt_mul_of_pos_right g (by omega))]
  · rw [g, Int.compare_eq_eq.2 rfl, Int.compare_eq_eq.2 rfl]
  · rw [Int.compare_eq_gt.2 g, Int.compare_eq_gt.2 (Int.mul_lt_mul_of_pos_right g (by omega))]
theorem signed_scale (s : Bool) (m p c : Nat) (h : c ≤ p) : sgn s (m * 2 ^ p) = signed s m (p - c) * ((2 ^ c : Nat) : Int) := by
  have e : m * 2 ^ p = m * 2 ^ (p - c) * 2 ^ c := by rw [Nat.mul_assoc, ← Nat.pow_add, Nat.sub_add_cancel h]
  unfold sgn signed
  rw [e, shl]
  cases s
  · simp
  · simp [Int.neg_mul]
/-- Two finite words stand to each other as their numbers do. -/
theorem ord_fin (a b : Nat) (ha : ex a < 2047) (hb : ex b < 2047) : double.order a b = some (compare (sgn (sg a) (V a)) (sgn (sg b) (V b))) := by
  unfold Format.order
  rw [read_fin a ha, read_fin b hb]
  simp only [Datum.order]
  have h1 : ((pl a : Int) - 1074 - min ((pl a : Int) - 1074) ((pl b : Int) - 1074)).toNat = pl a - min (pl a) (pl b) := by omega
  have h2 : ((pl b : Int) - 1074 - min ((pl a : Int) - 1074) ((pl b : Int) - 1074)).toNat = pl b - min (pl a) (pl b) := by omega
  rw [h1, h2]
  unfold V
  rw [signed_scale _ _ _ _ (Nat.min_le_left (pl a) (pl b)), signed_scale _ _ _ _ (Nat.min_le_right (pl a) (pl b)), cmp_scale _ _ _ (two_pos _)]

/-! ### whole numbers -/
def ONE : Nat := 2 ^ 1074
theorem one_pos : 0 < ONE := Nat.two_pow_pos _
theorem log2_eq {n L : Nat} (h1 : 2 ^ L ≤ n) (h2 : n < 2 ^ (L + 1)) : n.log2 = L := by
  have h0 : n ≠ 0 := by have := two_pos L; omega
  have g1 := (Nat.le_log2 h0).2 h1
  have g2 := (Nat.log2_lt h0).2 h2
  omega
theorem cut_zero (way : Toward) (hw : way = .down ∨ way = .zero) (n d : Nat) : way.cut false n d = n / 2 ^ d := by
  have e : way.cut false n d = n / (1 <<< min d (n.log2 + 2)) := by
    rcases hw with rfl | rfl <;> simp [Toward.cut]
  rw [e, shl, Nat.one_mul]
  by_cases h : d ≤ n.log2 + 2
  · rw [Nat.min_eq_left h]
  · rw [Nat.min_eq_right (by omega)]
    have h1 : n < 2 ^ (n.log2 + 1) := Nat.lt_log2_self
    have h2 : 2 ^ (n.log2 + 1) ≤ 2 ^ (n.log2 + 2) := Nat.pow_le_pow_right (by omega) (by omega)
    have h3 : 2 ^ (n.log2 + 1) ≤ 2 ^ d := Nat.pow_le_pow_right (by omega) (by omega)
    rw [Nat.div_eq_of_lt (by omega), Nat.div_eq_of_lt (by omega)]
theorem cut_even (s : Bool) (M d : Nat) (h : 0 < M) : Toward.even.cut s (M * 2 ^ d) d = M := by
  have hp := two_pos d
  have hl : d ≤ (M * 2 ^ d).log2 := by
    have h0 : M * 2 ^ d ≠ 0 := Nat.mul_ne_zero (by omega) (by omega)
    refine (Nat.le_log2 h0).2 ?_
    exact Nat.le_mul_of_pos_left _ h
  simp only [Toward.cut, shl, Nat.one_mul]
  rw [Nat.min_eq_left (by omega), Nat.mul_mod_left, Nat.mul_div_cancel _ hp]
  have h1 : ¬ (2 ^ d < 2 * 0) := by omega
  have h2 : (2 ^ d == 2 * 0) = false := by rw [beq_eq_false_iff_ne]; omega
  simp [h1, h2]
theorem word_f (r : Nat) : double.word false r = r := rfl
theorem word_t (r : Nat) : double.word true r = 9223372036854775808 + r := rfl

/-- The word of 'M * 2 ^ (P - 1074)', M with all its digits. -/
def wd (s : Bool) (M P : Nat) : Nat := double.word s (P * 4503599627370496 + M)
theorem wd_facts (s : Bool) (M P : Nat) (h1 : 4503599627370496 ≤ M) (h2 : M < 9007199254740992) (hP : P ≤ 2045) : ex (wd s M P) = P + 1 ∧ sg (wd s M P) = s ∧ V (wd s M P) = M * 2 ^ P ∧ rung (wd s M P) = P * 4503599627370496 + M := by
  have hr : (wd s M P) % 9223372036854775808 = P * 4503599627370496 + M := by
    unfold wd
    cases s
    · rw [word_f]; omega
    · rw [word_t]; omega
  have he : ex (wd s M P) = P + 1 := by
    have : ex (wd s M P) = (wd s M P) % 9223372036854775808 / 4503599627370496 := by unfold ex; omega
    rw [this, hr]; omega
  have hf : fr (wd s M P) = M - 4503599627370496 := by
    have : fr (wd s M P) = (wd s M P) % 9223372036854775808 % 4503599627370496 := by unfold fr; omega
    rw [this, hr]; omega
  refine ⟨he, ?_, ?_, ?_⟩
  · unfold sg wd
    cases s
    · rw [word_f]; simp; omega
    · rw [word_t]; simp; omega
  · unfold V mg pl
    rw [he, if_neg (by omega), hf]
    have : 4503599627370496 + (M - 4503599627370496) = M := by omega
    rw [this]; rfl
  · rw [rung_eq, hr]
theorem nearest_eq (s : Bool) (mag : Nat) (place : Int) (h : mag ≠ 0) : double.nearest s mag place =
    double.word s (min ((max (place + mag.log2 - 52) (-1074) - (-1074)).toNat * 4503599627370496 + Toward.even.cut s (mag <<< (place - max (place + mag.log2 - 52) (-1074)).toNat) (max (place + mag.log2 - 52) (-1074) - place).toNat) 9218868437227405312) := by
  unfold Format.nearest
  rw [if_neg h]
  rfl
theorem nearest_up (s : Bool) (M P c : Nat) (h1 : 4503599627370496 ≤ M) (h2 : M < 9007199254740992) (hP : P ≤ 2045) : double.nearest s (M * 2 ^ c) ((P : Int) - 1074 - c) = wd s M P := by
  have hp := two_pos c
  have h0 : M * 2 ^ c ≠ 0 := Nat.mul_ne_zero (by omega) (by omega)
  have hl : (M * 2 ^ c).log2 = 52 + c := by
    refine log2_eq ?_ ?_
    · rw [Nat.pow_add]; exact Nat.mul_le_mul_right _ h1
    · have : 2 ^ (52 + c + 1) = 9007199254740992 * 2 ^ c := by rw [show 52 + c + 1 = 53 + c from by omega, Nat.pow_add]
      rw [this]; exact Nat.mul_lt_mul_of_pos_right h2 hp
  rw [nearest_eq _ _ _ h0, hl]
  have e1 : max ((P : Int) - 1074 - c + ((52 + c : Nat) : Int) - 52) (-1074) = (P : Int) - 1074 := by omega
  rw [e1]
  have e2 : ((P : Int) - 1074 - c - ((P : Int) - 1074)).toNat = 0 := by omega
  have e3 : ((P : Int) - 1074 - ((P : Int) - 1074 - c)).toNat = c := by omega
  have e4 : ((P : Int) - 1074 - (-1074)).toNat = P := by omega
  rw [e2, e3, e4, shl, Nat.pow_zero, Nat.mul_one, cut_even _ _ _ (by omega)]
  rw [Nat.min_eq_left (by omega)]
  rfl
theorem shift_le (m M c : Nat) (h : m * 2 ^ c = M) (h1 : 4503599627370496 ≤ M) (h2 : M < 9007199254740992) : c ≤ 52 := by
  have hp := two_pos c
  have h0 : m ≠ 0 := by
    intro e
    rw [e, Nat.zero_mul] at h
    omega
  by_cases g : c ≤ 52
  · exact g
  · have e53 : (2 : Nat) ^ 53 = 9007199254740992 := by decide
    have g1 : 2 ^ 53 ≤ 2 ^ c := Nat.pow_le_pow_right (by omega) (by omega)
    rw [e53] at g1
    have g2 : 2 ^ c ≤ m * 2 ^ c := Nat.le_mul_of_pos_left _ (by omega)
    rw [h] at g2
    omega
theorem shift_log (m M c : Nat) (h : m * 2 ^ c = M) (h1 : 4503599627370496 ≤ M) (h2 : M < 9007199254740992) (hc : c ≤ 52) : m.log2 = 52 - c := by
  have hp := two_pos c
  refine log2_eq ?_ ?_
  · refine Nat.le_of_mul_le_mul_right ?_ hp
    rw [← Nat.pow_add, h, show 52 - c + c = 52 from by omega]; exact h1
  · refine Nat.lt_of_mul_lt_mul_right (a := 2 ^ c) ?_
    rw [← Nat.pow_add, h, show 52 - c + 1 + c = 53 from by omega]; exact h2
theorem nearest_down (s : Bool) (m M P c : Nat) (h : m * 2 ^ c = M) (h1 : 4503599627370496 ≤ M) (h2 : M < 9007199254740992) (hP : P ≤ 2045) : double.nearest s m ((P : Int) - 1074 + c) = wd s M P := by
  have h0 : m ≠ 0 := by
    intro e
    rw [e, Nat.zero_mul] at h
    omega
  have hc := shift_le m M c h h1 h2
  have hl := shift_log m M c h h1 h2 hc
  rw [nearest_eq _ _ _ h0, hl]
  have e1 : max ((P : Int) - 1074 + c + ((52 - c : Nat) : Int) - 52) (-1074) = (P : Int) - 1074 := by omega
  rw [e1]
  have e2 : ((P : Int) - 1074 + c - ((P : Int) - 1074)).toNat = c := by omega
  have e3 : ((P : Int) - 1074 - ((P : Int) - 1074 + c)).toNat = 0 := by omega
  have e4 : ((P : Int) - 1074 - (-1074)).toNat = P := by omega
  have e5 := cut_even s M 0 (by omega)
  rw [Nat.pow_zero, Nat.mul_one] at e5
  rw [e2, e3, e4, shl, h, e5]
  rw [Nat.min_eq_left (by omega)]
  rfl

/-- A whole number that a word can be. -/
def Fits (n : Nat) : Prop := n < 9007199254740992 ∨ ∃ m k, 4503599627370496 ≤ m ∧ m < 9007199254740992 ∧ k ≤ 900 ∧ n = m * 2 ^ k
/-- The word of a whole number, shifted: it is that number's. -/
theorem near_int (s : Bool) (n j : Nat) (h0 : 0 < n) (hf : Fits n) : ∃ M P, double.nearest s (n * 2 ^ j) (-(j : Int)) = wd s M P ∧ 4503599627370496 ≤ M ∧ M < 9007199254740992 ∧ P ≤ 2045 ∧ M * 2 ^ P = n * ONE := by
  by_cases hn : n < 9007199254740992
  · have hl := Nat.log2_self_le (n := n) (by omega)
    have hu := Nat.lt_log2_self (n := n)
    have hL : n.log2 < 53 := (Nat.log2_lt (by omega)).2 hn
    have hs : 2 ^ n.log2 * 2 ^ (52 - n.log2) = 4503599627370496 := by rw [← Nat.pow_add, show n.log2 + (52 - n.log2) = 52 from by omega]
    have hs' : 2 ^ (n.log2 + 1) * 2 ^ (52 - n.log2) = 9007199254740992 := by rw [← Nat.pow_add, show n.log2 + 1 + (52 - n.log2) = 53 from by omega]
    have g1 : 4503599627370496 ≤ n * 2 ^ (52 - n.log2) := by rw [← hs]; exact Nat.mul_le_mul_right _ hl
    have g2 : n * 2 ^ (52 - n.log2) < 9007199254740992 := by rw [← hs']; exact Nat.mul_lt_mul_of_pos_right hu (two_pos _)
    refine ⟨n * 2 ^ (52 - n.log2), 1022 + n.log2, ?_, g1, g2, by omega, ?_⟩
    · by_cases hj : 52 - n.log2 ≤ j
      · have := nearest_up s (n * 2 ^ (52 - n.log2)) (1022 + n.log2) (j - (52 - n.log2)) g1 g2 (by omega)
        rw [Nat.mul_assoc, ← Nat.pow_add, show 52 - n.log2 + (j - (52 - n.log2)) = j from by omega] at this
        rw [← this]
        congr 1
        omega
      · have := nearest_down s (n * 2 ^ j) (n * 2 ^ (52 - n.log2)) (1022 + n.log2) (52 - n.log2 - j) (by rw [Nat.mul_assoc, ← Nat.pow_add, show j + (52 - n.log2 - j) = 52 - n.log2 from by omega]) g1 g2 (by omega)
        rw [← this]
        congr 1
        omega
    · unfold ONE
      rw [Nat.mul_assoc, ← Nat.pow_add, show 52 - n.log2 + (1022 + n.log2) = 1074 from by omega]
  · rcases hf with hf | ⟨m, k, g1, g2, hk, rfl⟩
    · exact absurd hf hn
    · refine ⟨m, 1074 + k, ?_, g1, g2, by omega, ?_⟩
      · have := nearest_up s m (1074 + k) (k + j) g1 g2 (by omega)
        rw [Nat.mul_assoc, ← Nat.pow_add, ← this]
        congr 1
        omega
      · unfold ONE
        rw [Nat.mul_assoc, ← Nat.pow_add, Nat.add_comm k]

/-! ### budgets -/
def Nan (b : Nat) : Prop := ex b = 2047 ∧ fr b ≠ 0
instance (b : Nat) : Decidable (Nan b) := inferInstanceAs (Decidable (_ ∧ _))
/-- The whole part of a word that is no NaN and not below zero. -/
def whole (b : Nat) : Nat := V b / ONE
/-- What a budget affords. -/
def aff (b : Nat) : Nat := if sg b = true ∨ Nan b then 0 else min (whole b) 18446744073709551615
theorem V_all : V 4895412794951729152 = 18446744073709551616 * ONE := by
  have h1 : ex 4895412794951729152 = 1087 := by decide
  have h2 : fr 4895412794951729152 = 0 := by decide
  unfold V mg pl ONE
  rw [h1, h2, if_neg (by omega)]
theorem V_zero : V 0 = 0 := by
  have h1 : ex 0 = 0 := by decide
  have h2 : fr 0 = 0 := by decide
  unfold V mg
  rw [h1, h2, if_pos rfl, Nat.zero_mul]
theorem sg_pos {b : Nat} (h : b < 9223372036854775808) : sg b = false := by
  unfold sg
  rw [Nat.div_eq_of_lt h]; rfl
theorem whole_inf {b : Nat} (h : ex b = 2047) : 18446744073709551616 ≤ whole b := by
  unfold whole
  rw [Nat.le_div_iff_mul_le one_pos, ← V_all]
  rcases Nat.lt_or_ge (rung 4895412794951729152) (rung b) with g | g
  · exact Nat.le_of_lt (V_mono g)
  · unfold rung at g
    rw [h, show ex 4895412794951729152 = 1087 from by decide, show fr 4895412794951729152 = 0 from by decide] at g
    omega
theorem whole_big (b : Nat) (h : 1900 ≤ ex b) : 18446744073709551616 ≤ whole b := by
  unfold whole
  rw [Nat.le_div_iff_mul_le one_pos, ← V_all]
  rcases Nat.lt_or_ge (rung 4895412794951729152) (rung b) with g | g
  · exact Nat.le_of_lt (V_mono g)
  · unfold rung at g
    rw [show ex 4895412794951729152 = 1087 from by decide, show fr 4895412794951729152 = 0 from by decide] at g
    omega
/-- How a budget stands to 2 to the 64 and to zero, and what it affords: six cases. -/
theorem aff_cases (b : Nat) :
    (double.order b 4895412794951729152 = none ∧ double.order b 0 = none ∧ aff b = 0) ∨
    (double.order b 4895412794951729152 = some .lt ∧ double.order b 0 = some .lt ∧ aff b = 0) ∨
    (double.order b 4895412794951729152 = some .lt ∧ double.order b 0 = some .eq ∧ aff b = 0) ∨
    (double.order b 4895412794951729152 = some .lt ∧ double.order b 0 = some .gt ∧ sg b = false ∧ ex b < 2047 ∧ aff b = whole b ∧ whole b < 18446744073709551616) ∨
    (double.order b 4895412794951729152 = some .eq ∧ double.order b 0 = some .gt ∧ sg b = false ∧ ¬ Nan b ∧ aff b = 18446744073709551615 ∧ 18446744073709551616 ≤ whole b) ∨
    (double.order b 4895412794951729152 = some .gt ∧ double.order b 0 = some .gt ∧ sg b = false ∧ ¬ Nan b ∧ aff b = 18446744073709551615 ∧ 18446744073709551616 ≤ whole b) := by
  have a1 : ex 4895412794951729152 = 1087 := by decide
  have a2 : sg 4895412794951729152 = false := by decide
  have z1 : ex 0 = 0 := by decide
  have z2 : sg 0 = false := by decide
  have he := ex_lt b
  by_cases hn : Nan b
  · obtain ⟨t, ht⟩ := read_nan b hn.1 hn.2
    refine Or.inl ⟨?_, ?_, ?_⟩
    · unfold Format.order; rw [ht]; rfl
    · unfold Format.order; rw [ht]; rfl
    · unfold aff; rw [if_pos (Or.inr hn)]
  · by_cases hi : ex b = 2047
    · have hf : fr b = 0 := by
        by_cases g : fr b = 0
        · exact g
        · exact absurd ⟨hi, g⟩ hn
      have hr := read_inf b hi hf
      have ra : double.read 4895412794951729152 = .number false (mg 4895412794951729152) ((pl 4895412794951729152 : Int) - 1074) := read_fin _ (by rw [a1]; omega)
      have rz : double.read 0 = .number false (mg 0) ((pl 0 : Int) - 1074) := read_fin _ (by rw [z1]; omega)
      cases hs : sg b
      · rw [hs] at hr
        refine Or.inr (Or.inr (Or.inr (Or.inr (Or.inr ⟨?_, ?_, rfl, hn, ?_, whole_inf hi⟩))))
        · unfold Format.order; rw [hr, ra]; rfl
        · unfold Format.order; rw [hr, rz]; rfl
        · unfold aff
          rw [if_neg (by rintro (g | g); · rw [hs] at g; cases g
                         · exact hn g)]
          have := whole_inf hi
          omega
      · rw [hs] at hr
        refine Or.inr (Or.inl ⟨?_, ?_, ?_⟩)
        · unfold Format.order; rw [hr, ra]; rfl
        · unfold Format.order; rw [hr, rz]; rfl
        · unfold aff; rw [if_pos (Or.inl hs)]
    · have h1 := ord_fin b 4895412794951729152 (by omega) (by rw [a1]; omega)
      have h2 := ord_fin b 0 (by omega) (by rw [z1]; omega)
      rw [a2, V_all] at h1
      rw [z2, V_zero] at h2
      have hO := one_pos
      cases hs : sg b
      · rw [hs] at h1 h2
        have hA : aff b = min (whole b) 18446744073709551615 := by
          unfold aff
          rw [if_neg (by rintro (g | g); · rw [hs] at g; cases g
                         · exact hn g)]
        rcases Nat.lt_trichotomy (V b) (18446744073709551616 * ONE) with g | g | g
        · have hw : whole b < 18446744073709551616 := (Nat.div_lt_iff_lt_mul hO).2 g
          have c1 : compare (sgn false (V b)) (sgn false (18446744073709551616 * ONE)) = .lt := by rw [Int.compare_eq_lt]; show (V b : Int) < _; exact Int.ofNat_lt.2 g
          rw [c1] at h1
          by_cases hz : V b = 0
          · have c2 : compare (sgn false (V b)) (sgn false 0) = .eq := by rw [hz]; rfl
            rw [c2] at h2
            refine Or.inr (Or.inr (Or.inl ⟨h1, h2, ?_⟩))
            rw [hA]; unfold whole; rw [hz, Nat.zero_div]; rfl
          · have c2 : compare (sgn false (V b)) (sgn false 0) = .gt := by rw [Int.compare_eq_gt]; show ((0 : Nat) : Int) < (V b : Int); omega
            rw [c2] at h2
            exact Or.inr (Or.inr (Or.inr (Or.inl ⟨h1, h2, rfl, by omega, by omega, hw⟩)))
        · have hw : 18446744073709551616 ≤ whole b := (Nat.le_div_iff_mul_le hO).2 (Nat.le_of_eq g.symm)
          have c1 : compare (sgn false (V b)) (sgn false (18446744073709551616 * ONE)) = .eq := by rw [g, Int.compare_eq_eq]
          have hz : 0 < V b := by rw [g]; exact Nat.mul_pos (by omega) hO
          have c2 : compare (sgn false (V b)) (sgn false 0) = .gt := by rw [Int.compare_eq_gt]; show ((0 : Nat) : Int) < (V b : Int); omega
          rw [c1] at h1
          rw [c2] at h2
          exact Or.inr (Or.inr (Or.inr (Or.inr (Or.inl ⟨h1, h2, rfl, hn, by omega, hw⟩))))
        · have hw : 18446744073709551616 ≤ whole b := (Nat.le_div_iff_mul_le hO).2 (Nat.le_of_lt g)
          have c1 : compare (sgn false (V b)) (sgn false (18446744073709551616 * ONE)) = .gt := by rw [Int.compare_eq_gt]; show _ < (V b : Int); exact Int.ofNat_lt.2 g
          have hz : 0 < V b := by omega
          have c2 : compare (sgn false (V b)) (sgn false 0) = .gt := by rw [Int.compare_eq_gt]; show ((0 : Nat) : Int) < (V b : Int); omega
          rw [c1] at h1
          rw [c2] at h2
          exact Or.inr (Or.inr (Or.inr (Or.inr (Or.inr ⟨h1, h2, rfl, hn, by omega, hw⟩))))
      · rw [hs] at h1 h2
        have hA : aff b = 0 := by unfold aff; rw [if_pos (Or.inl hs)]
        have hp : 0 < 18446744073709551616 * ONE := Nat.mul_pos (by omega) hO
        have c1 : compare (sgn true (V b)) (sgn false (18446744073709551616 * ONE)) = .lt := by
          generalize 18446744073709551616 * ONE = X at hp
          rw [Int.compare_eq_lt]; show -(V b : Int) < (X : Int); omega
        rw [c1] at h1
        by_cases hz : V b = 0
        · have c2 : compare (sgn true (V b)) (sgn false 0) = .eq := by rw [hz]; rfl
          rw [c2] at h2
          exact Or.inr (Or.inr (Or.inl ⟨h1, h2, hA⟩))
        · have c2 : compare (sgn true (V b)) (sgn false 0) = .lt := by rw [Int.compare_eq_lt]; show -(V b : Int) < ((0 : Nat) : Int); omega
          rw [c2] at h2
          exact Or.inr (Or.inl ⟨h1, h2, hA⟩)
/-- Two finite words that are not below zero stand to each other as they do as numbers. -/
theorem ord_pos (a b : Nat) (ha : a < 9218868437227405312) (hb : b < 9218868437227405312) : double.order a b = some (if a < b then .lt else if a = b then .eq else .gt) := by
  have e1 : ex a < 2047 := by unfold ex; omega
  have e2 : ex b < 2047 := by unfold ex; omega
  have r1 : rung a = a := by rw [rung_eq]; omega
  have r2 : rung b = b := by rw [rung_eq]; omega
  rw [ord_fin a b e1 e2, sg_pos (show a < 9223372036854775808 by omega), sg_pos (show b < 9223372036854775808 by omega)]
  rcases Nat.lt_trichotomy a b with g | g | g
  · rw [if_pos g]
    have := V_lt_iff.2 (show rung a < rung b by rw [r1, r2]; exact g)
    congr 1
    rw [Int.compare_eq_lt]; exact Int.ofNat_lt.2 this
  · subst g
    rw [if_neg (by omega), if_pos rfl]
    congr 1
    rw [Int.compare_eq_eq]
  · rw [if_neg (by omega), if_neg (by omega)]
    have := V_lt_iff.2 (show rung b < rung a by rw [r1, r2]; exact g)
    congr 1
    rw [Int.compare_eq_gt]; exact Int.ofNat_lt.2 this
theorem aff_lt (b : Nat) : aff b < 18446744073709551616 := by
  unfold aff
  split
  · omega
  · omega

/-! ### Floor, and a whole number as a word and back -/
/-- The word of a whole number. -/
def nw (n : Nat) : Nat := double.nearest false n 0
theorem nw_zero : nw 0 = 0 := rfl
theorem nw_facts (n : Nat) (hf : Fits n) : sg (nw n) = false ∧ ex (nw n) < 2047 ∧ V (nw n) = n * ONE := by
  by_cases h0 : n = 0
  · subst h0
    rw [nw_zero, V_zero, Nat.zero_mul]
    exact ⟨by decide, by decide, rfl⟩
  · obtain ⟨M, P, e, g1, g2, g3, g4⟩ := near_int false n 0 (by omega) hf
    rw [Nat.pow_zero, Nat.mul_one] at e
    have e' : nw n = wd false M P := e
    obtain ⟨f1, f2, f3, f4⟩ := wd_facts false M P g1 g2 g3
    rw [e', f1, f2, f3]
    exact ⟨rfl, by omega, g4⟩
/-- The whole part of a finite word that is not below zero can be a word. -/
theorem whole_fits (b : Nat) (h : ex b < 1900) : Fits (whole b) := by
  have hf := fr_lt b
  have hm : mg b < 9007199254740992 := by unfold mg; split <;> omega
  unfold whole V ONE
  by_cases hp : 1074 ≤ pl b
  · have e : mg b * 2 ^ pl b / 2 ^ 1074 = mg b * 2 ^ (pl b - 1074) := by
      have : 2 ^ pl b = 2 ^ (pl b - 1074) * 2 ^ 1074 := by rw [← Nat.pow_add, Nat.sub_add_cancel hp]
      rw [this, ← Nat.mul_assoc, Nat.mul_div_cancel _ (two_pos _)]
    rw [e]
    right
    have h0 : ex b ≠ 0 := by unfold pl at hp; omega
    refine ⟨mg b, pl b - 1074, ?_, hm, ?_, rfl⟩
    · unfold mg; rw [if_neg h0]; omega
    · unfold pl; omega
  · left
    have e : mg b * 2 ^ pl b / 2 ^ 1074 ≤ mg b := by
      have h1 : 2 ^ pl b ≤ 2 ^ 1074 := Nat.pow_le_pow_right (by omega) (by omega)
      refine Nat.div_le_of_le_mul ?_
      rw [Nat.mul_comm]
      exact Nat.mul_le_mul_right _ h1
    omega
theorem floor_eq (b : Nat) (hs : sg b = false) (he : ex b < 2047) : double.write ((double.read b).integral .down) = nw (whole b) := by
  rw [read_fin b he, hs]
  simp only [Datum.integral, Format.write]
  rw [cut_zero _ (Or.inl rfl)]
  unfold nw whole V ONE
  congr 1
  rw [shl]
  by_cases hp : 1074 ≤ pl b
  · have h1 : ((pl b : Int) - 1074).toNat = pl b - 1074 := by omega
    have h2 : (-((pl b : Int) - 1074)).toNat = 0 := by omega
    rw [h1, h2, Nat.pow_zero, Nat.div_one]
    have : 2 ^ pl b = 2 ^ (pl b - 1074) * 2 ^ 1074 := by rw [← Nat.pow_add, Nat.sub_add_cancel hp]
    rw [this, ← Nat.mul_assoc, Nat.mul_div_cancel _ (two_pos _)]
  · have h1 : ((pl b : Int) - 1074).toNat = 0 := by omega
    have h2 : (-((pl b : Int) - 1074)).toNat = 1074 - pl b := by omega
    rw [h1, h2, Nat.pow_zero, Nat.mul_one]
    have : (2 : Nat) ^ 1074 = 2 ^ (1074 - pl b) * 2 ^ pl b := by rw [← Nat.pow_add, Nat.sub_add_cancel (by omega)]
    rw [this, Nat.mul_div_mul_right _ _ (two_pos _)]
theorem toInt_eq (b : Nat) (hs : sg b = false) (he : ex b < 2047) : (double.read b).toInt .zero = some (whole b : Int) := by
  have h := floor_eq b hs he
  unfold Datum.toInt
  rw [read_fin b he, hs]
  simp only [Datum.integral]
  rw [cut_zero _ (Or.inr rfl)]
  unfold whole V ONE signed
  simp only [Bool.false_eq_true, if_false, shl, Nat.pow_zero, Nat.mul_one]
  congr 2
  by_cases hp : 1074 ≤ pl b
  · have h1 : ((pl b : Int) - 1074).toNat = pl b - 1074 := by omega
    have h2 : (-((pl b : Int) - 1074)).toNat = 0 := by omega
    rw [h1, h2, Nat.pow_zero, Nat.div_one]
    have : 2 ^ pl b = 2 ^ (pl b - 1074) * 2 ^ 1074 := by rw [← Nat.pow_add, Nat.sub_add_cancel hp]
    rw [this, ← Nat.mul_assoc, Nat.mul_div_cancel _ (two_pos _)]
  · have h1 : ((pl b : Int) - 1074).toNat = 0 := by omega
    have h2 : (-((pl b : Int) - 1074)).toNat = 1074 - pl b := by omega
    rw [h1, h2, Nat.pow_zero, Nat.mul_one]
    have : (2 : Nat) ^ 1074 = 2 ^ (1074 - pl b) * 2 ^ pl b := by rw [← Nat.pow_add, Nat.sub_add_cancel (by omega)]
    rw [this, Nat.mul_div_mul_right _ _ (two_pos _)]
theorem whole_nw (n : Nat) (hf : Fits n) : whole (nw n) = n := by
  unfold whole
  rw [(nw_facts n hf).2.2, Nat.mul_div_cancel _ one_pos]
end Fl
end Go.Proofs.YtedllapajgcfeaaGreatDoor
