/-
  A whole number times or by a power of ten, done in floats (internal/strconv's atof64exact): the float64 is the one that the decimal number lies at. No program in sight.
-/
import Derived.Test.YtedllapajgcfeaaGreatDoorNea
namespace Go.Proofs.YtedllapajgcfeaaGreatDoor
set_option linter.unusedVariables false
set_option linter.unusedSimpArgs false
namespace Sc
set_option exponentiation.threshold 5000
set_option maxRecDepth 20000
open Ieee

theorem read_word {m : Nat} {E : Int} (F : Fin m E) (s : Bool) : double.read (double.word s (rg m E)) = .number s m E := by
  have h1 := F.lo
  have h2 := F.hi
  have h3 := F.lt
  have h4 := F.sub
  have h5 := rg_lt F
  have hm : double.word s (rg m E) % 9223372036854775808 = rg m E := by
    cases s
    · rw [Fl.word_f]; omega
    · rw [Fl.word_t]; omega
  have hs : Fl.sg (double.word s (rg m E)) = s := by
    unfold Fl.sg
    cases s
    · rw [Fl.word_f]; simp; omega
    · rw [Fl.word_t]; simp; omega
  rw [Fl.read_eq, hm, hs, if_pos h5]
  by_cases c : m < 4503599627370496
  · have := h4 c
    have e : rg m E = m := by unfold rg; omega
    rw [e, if_pos c, this]
  · have e : rg m E = (E + 1074).toNat * 4503599627370496 + m := rfl
    rw [if_neg (by omega)]
    congr 1
    · omega
    · omega

/-- A word that is a whole number. -/
def Wn (s : Bool) (a x : Nat) : Prop := ∃ m p, double.read x = .number s m p ∧ N m p = N a 0 ∧ -60 ≤ p ∧ p ≤ 100 ∧ 0 < m ∧ m < 9007199254740992
theorem fin_int (a : Nat) (h0 : 0 < a) (h1 : a < 9007199254740992) : ∃ m E, Fin m E ∧ N m E = N a 0 ∧ -60 ≤ E ∧ E ≤ 100 := by
  have hl := Nat.log2_self_le (n := a) (by omega)
  have hu := Nat.lt_log2_self (n := a)
  have hL : a.log2 < 53 := (Nat.log2_lt (by omega)).2 h1
  have hs : 2 ^ a.log2 * 2 ^ (52 - a.log2) = 4503599627370496 := by rw [← Nat.pow_add, show a.log2 + (52 - a.log2) = 52 from by omega]
  have hs' : 2 ^ (a.log2 + 1) * 2 ^ (52 - a.log2) = 9007199254740992 := by rw [← Nat.pow_add, show a.log2 + 1 + (52 - a.log2) = 53 from by omega]
  have g1 : 4503599627370496 ≤ a * 2 ^ (52 - a.log2) := by rw [← hs]; exact Nat.mul_le_mul_right _ hl
  have g2 : a * 2 ^ (52 - a.log2) < 9007199254740992 := by rw [← hs']; exact Nat.mul_lt_mul_of_pos_right hu (pow_pos _)
  refine ⟨a * 2 ^ (52 - a.log2), -((52 - a.log2 : Nat) : Int), ⟨by omega, g2, by omega, by omega, by omega⟩, ?_, by omega, by omega⟩
  rw [← N_up _ _ _ (by omega)]
  congr 1
  omega
theorem wn_word {m : Nat} {E : Int} (F : Fin m E) (s : Bool) {a : Nat} (h : N m E = N a 0) (h1 : -60 ≤ E) (h2 : E ≤ 100) : Wn s a (double.word s (rg m E)) := ⟨m, E, read_word F s, h, h1, h2, F.pos, F.lt⟩

/-! ### the powers of ten -/
def pw (k : Nat) : Nat := double.nearest false (10 ^ k) 0
def okp (k : Nat) : Bool := match double.read (pw k) with
  | .number s m p => !s && decide (N m p = N (10 ^ k) 0) && decide (-60 ≤ p) && decide (p ≤ 100) && decide (0 < m) && decide (m < 9007199254740992)
  | _ => false
theorem okp_all : (List.range 23).all okp = true := by decide +kernel
theorem pw_f (k : Nat) (h : k ≤ 22) : Wn false (10 ^ k) (pw k) := by
  have := List.all_eq_true.1 okp_all k (List.mem_range.2 (by omega))
  unfold okp at this
  split at this
  · rename_i s m p e
    simp only [Bool.and_eq_true, decide_eq_true_eq, Bool.not_eq_true'] at this
    obtain ⟨⟨⟨⟨⟨h1, h2⟩, h3⟩, h4⟩, h5⟩, h6⟩ := this
    subst h1
    exact ⟨m, p, e, h2, h3, h4, h5, h6⟩
  · cases this

theorem wv_nat (d k : Nat) : wv d k = N (d * 10 ^ k) 0 := by
  unfold wv N ten
  rw [show ((k : Int) + 400).toNat = k + 400 from by omega, show ((0 : Int) + 400).toNat = 400 from rfl, show ((0 : Int) + 1400).toNat = 1400 from rfl, Nat.pow_add]
  generalize (2 : Nat) ^ 1400 = G
  generalize (10 : Nat) ^ 400 = H
  grind
theorem N_prod {m1 m2 a b : Nat} {p1 p2 : Int} (h1 : N m1 p1 = N a 0) (h2 : N m2 p2 = N b 0) (g1 : -60 ≤ p1) (g2 : -60 ≤ p2) : N (m1 * m2) (p1 + p2) = N (a * b) 0 := by
  have e : ∀ (h : Nat) (j : Int), N h j = h * 2 ^ (j + 1400).toNat * ten 0 := by intro h j; unfold N; grind
  rw [e, e] at h1 h2 ⊢
  have h1 := Nat.eq_of_mul_eq_mul_right (ten_pos 0) h1
  have h2 := Nat.eq_of_mul_eq_mul_right (ten_pos 0) h2
  congr 1
  refine Nat.eq_of_mul_eq_mul_right (pow_pos 1400) ?_
  have hx : 2 ^ (p1 + p2 + 1400).toNat * 2 ^ 1400 = 2 ^ (p1 + 1400).toNat * 2 ^ (p2 + 1400).toNat := by
    rw [← Nat.pow_add, ← Nat.pow_add]; congr 1; omega
  rw [show ((0 : Int) + 1400).toNat = 1400 from rfl] at h1 h2 ⊢
  calc m1 * m2 * 2 ^ (p1 + p2 + 1400).toNat * 2 ^ 1400 = m1 * m2 * (2 ^ (p1 + p2 + 1400).toNat * 2 ^ 1400) := by grind
    _ = m1 * 2 ^ (p1 + 1400).toNat * (m2 * 2 ^ (p2 + 1400).toNat) := by rw [hx]; grind
    _ = a * 2 ^ 1400 * (b * 2 ^ 1400) := by rw [h1, h2]
    _ = _ := by grind
theorem mul_num {x y : Nat} {s : Bool} {a b : Nat} (hx : Wn s a x) (hy : Wn false b y) : ∃ mag place, double.mul x y = some (double.nearest s mag place) ∧ N mag place = N (a * b) 0 ∧ -1300 ≤ place := by
  obtain ⟨m1, p1, r1, e1, g1, g1', _, _⟩ := hx
  obtain ⟨m2, p2, r2, e2, g2, g2', _, _⟩ := hy
  refine ⟨m1 * m2, p1 + p2, ?_, N_prod e1 e2 g1 g2, by omega⟩
  unfold Format.mul
  rw [r1, r2]
  simp [Datum.product, Format.write]
/-- A product is rounded right. -/
theorem mul_in {m : Nat} {E : Int} (F : Fin m E) {x : Nat} {s : Bool} {a k d : Nat} {P : Int} (hx : Wn s a x) (hk : k ≤ 22) (e : wv d P = N (a * 10 ^ k) 0) (h : In m E d P) : double.mul x (pw k) = some (double.word s (rg m E)) := by
  obtain ⟨mag, place, e1, e2, e3⟩ := mul_num hx (pw_f k hk)
  rw [e1, near F s mag place e3 (by rw [e2, ← e]; exact inx.mp h)]

/-! ### how a product stands to 10 to the power of 15 -/
structure Frw (s : Bool) (a x : Nat) : Prop where
  small : a ≤ 1000000000000000 → Wn s a x ∧ ∃ r, x = double.word s r ∧ r ≤ 4831355200913801216
  big : 1000000000000000 < a → ∃ r, x = double.word s r ∧ 4831355200913801216 < r ∧ r ≤ 9218868437227405312
theorem big_min {T k : Nat} (hT : 1072 ≤ T) (hk : 4503599627370496 ≤ k) : 4831355200913801216 < min (T * 4503599627370496 + k) 9218868437227405312 := by
  rw [Nat.lt_min]
  have := Nat.mul_le_mul_right 4503599627370496 hT
  exact ⟨by omega, by decide⟩
theorem near_frw (s : Bool) (a mag : Nat) (place : Int) (h0 : 0 < a) (hp : -1300 ≤ place) (e : N mag place = N a 0) : Frw s a (double.nearest s mag place) := by
  constructor
  · intro hs
    obtain ⟨m, E, F, h1, h2, h3⟩ := fin_int a h0 (by omega)
    have hn := near F s mag place hp (by rw [e, ← h1]; exact inx_self F)
    rw [hn]
    refine ⟨wn_word F s h1 h2 h3, rg m E, rfl, ?_⟩
    -- not above
    have hE : E ≤ -3 ∨ -3 < E := by omega
    have hlt := F.lt
    have h4 : N m E ≤ N 8000000000000000 (-3) := by
      have e3 := N_up 1000000000000000 3 (-3) (by omega)
      rw [show (-3 : Int) + ((3 : Nat) : Int) = 0 from rfl, show 1000000000000000 * 2 ^ 3 = 8000000000000000 from rfl] at e3
      rw [h1, ← e3]
      exact N_mono _ hs
    rcases hE with hE | hE
    · unfold rg
      by_cases h3 : E = -3
      · rw [h3] at h4
        have : m ≤ 8000000000000000 := by
          rcases Nat.lt_or_ge 8000000000000000 m with g | g
          · have := N_lt (-3) g; omega
          · exact g
        omega
      · omega
    · exfalso
      have hm : 4503599627370496 ≤ m := by
        rcases Nat.lt_or_ge m 4503599627370496 with g | g
        · have := F.sub g; omega
        · exact g
      obtain ⟨j, hj⟩ : ∃ j : Nat, E = -3 + 1 + j := ⟨(E - (-3) - 1).toNat, by omega⟩
      rw [hj, N_up _ _ _ (by omega), N2 _ _ (by omega)] at h4
      have g1 : 4503599627370496 * 1 ≤ m * 2 ^ j := Nat.mul_le_mul hm (pow_pos j)
      have := N_lt (h := 8000000000000000) (g := 2 * (m * 2 ^ j)) (-3) (by omega)
      omega
  · intro hb
    have hmag : 0 < mag := by
      rcases Nat.eq_zero_or_pos mag with z | z
      · exfalso
        have g := N_pos (h := a) 0 h0
        rw [← e, z] at g
        have h0 : N 0 place = 0 := by unfold N; rw [Nat.zero_mul, Nat.zero_mul]
        omega
      · exact z
    obtain ⟨last, k, hn, l1, l2, l3, l4, l5, l6⟩ := nearest_spec s mag place hmag hp
    rw [e] at l2 l3 l4 l5 l6
    refine ⟨_, hn, ?_, Nat.min_le_right _ _⟩
    have hx : N 8000000000000000 (-3) < N a 0 := by
      have e3 := N_up 1000000000000000 3 (-3) (by omega)
      rw [show (-3 : Int) + ((3 : Nat) : Int) = 0 from rfl, show 1000000000000000 * 2 ^ 3 = 8000000000000000 from rfl] at e3
      rw [← e3]
      exact N_lt _ hb
    have hl : -3 ≤ last := by
      rcases Int.lt_or_le last (-3) with g | g
      · exfalso
        obtain ⟨j, hj⟩ : ∃ j : Nat, (-3 : Int) = last + 1 + j := ⟨(-3 - last - 1).toNat, by omega⟩
        rw [hj, N_up _ _ _ (by omega), N2 _ _ (by omega)] at hx
        have := N_lt (h := 9007199254740992) (g := 2 * (8000000000000000 * 2 ^ j)) last (by have := pow_pos j; omega)
        omega
      · exact g
    by_cases h3 : last = -3
    · subst h3
      have e4 := N2 8000000000000000 (-4) (by omega)
      have e5 := N_up a 4 (-4) (by omega)
      rw [show (-4 : Int) + 1 = -3 from rfl] at e4
      rw [show (-4 : Int) + ((4 : Nat) : Int) = 0 from rfl] at e5
      rw [show (-3 : Int) - 1 = -4 from rfl] at l5
      have hk : a * 2 ^ 4 ≤ 2 * k + 1 := by
        rcases Nat.lt_or_ge (2 * k + 1) (a * 2 ^ 4) with g | g
        · have := N_lt (-4) g; omega
        · exact g
      omega
    · have hk : 4503599627370496 ≤ k := by
        rcases Nat.lt_or_ge k 4503599627370496 with g | g
        · exfalso
          have h7 := l3 (by omega)
          have e7 := N2 4503599627370496 (last - 1) (by omega)
          rw [show last - 1 + 1 = last from by omega] at e7
          have := N_lt (h := 2 * k + 1) (g := 2 * 4503599627370496) (last - 1) (by omega)
          omega
        · exact g
      have hT : 1072 ≤ (last + 1074).toNat := by omega
      exact big_min hT hk

theorem order_inf : double.order 9218868437227405312 4831355200913801216 = some .gt ∧ double.order 18442240474082181120 14054727237768577024 = some .lt ∧ double.order 18442240474082181120 4831355200913801216 = some .lt := by decide +kernel
theorem order_big {r : Nat} (h1 : 4831355200913801216 < r) (h2 : r ≤ 9218868437227405312) : double.order (double.word false r) 4831355200913801216 = some .gt ∧ double.order (double.word true r) 14054727237768577024 = some .lt ∧ double.order (double.word true r) 4831355200913801216 = some .lt := by
  rcases Nat.lt_or_ge r 9218868437227405312 with c | c
  · have f1 := Fl.ord_pos r 4831355200913801216 (by omega) (by omega)
    rw [if_neg (by omega), if_neg (by omega)] at f1
    have e1 : Fl.ex (double.word true r) < 2047 := by rw [Fl.word_t]; unfold Fl.ex; omega
    have e2 : Fl.ex 14054727237768577024 < 2047 := by decide
    have e3 : Fl.ex 4831355200913801216 < 2047 := by decide
    have s1 : Fl.sg (double.word true r) = true := by rw [Fl.word_t]; unfold Fl.sg; simp; omega
    have s2 : Fl.sg 14054727237768577024 = true := by decide
    have s3 : Fl.sg 4831355200913801216 = false := by decide
    have g1 : Fl.rung (double.word true r) = r := by rw [Fl.rung_eq, Fl.word_t]; omega
    have g2 : Fl.rung 14054727237768577024 = 4831355200913801216 := by rw [Fl.rung_eq]
    have g3 : Fl.rung 4831355200913801216 = 4831355200913801216 := by rw [Fl.rung_eq]
    refine ⟨f1, ?_, ?_⟩
    · rw [Fl.ord_fin _ _ e1 e2, s1, s2]
      have := Fl.V_lt_iff.2 (show Fl.rung 14054727237768577024 < Fl.rung (double.word true r) by rw [g1, g2]; exact h1)
      congr 1
      rw [Int.compare_eq_lt]
      show -(_ : Int) < -(_ : Int)
      omega
    · rw [Fl.ord_fin _ _ e1 e3, s1, s3]
      have := Fl.V_lt_iff.2 (show Fl.rung 4831355200913801216 < Fl.rung (double.word true r) by rw [g1, g3]; exact h1)
      congr 1
      rw [Int.compare_eq_lt]
      show -(_ : Int) < ((Fl.V 4831355200913801216 : Nat) : Int)
      omega
  · have e : r = 9218868437227405312 := Nat.le_antisymm h2 c
    rw [e]
    exact order_inf
theorem order_small {r : Nat} (h2 : r ≤ 4831355200913801216) : (double.order (double.word false r) 4831355200913801216 = some .lt ∨ double.order (double.word false r) 4831355200913801216 = some .eq) ∧ double.order (double.word false r) 14054727237768577024 = some .gt ∧
    (double.order (double.word true r) 14054727237768577024 = some .gt ∨ double.order (double.word true r) 14054727237768577024 = some .eq) ∧ double.order (double.word true r) 4831355200913801216 = some .lt := by
  have e0 : Fl.ex (double.word false r) < 2047 := by rw [Fl.word_f]; unfold Fl.ex; omega
  have e1 : Fl.ex (double.word true r) < 2047 := by rw [Fl.word_t]; unfold Fl.ex; omega
  have e2 : Fl.ex 14054727237768577024 < 2047 := by decide
  have e3 : Fl.ex 4831355200913801216 < 2047 := by decide
  have s0 : Fl.sg (double.word false r) = false := by rw [Fl.word_f]; unfold Fl.sg; simp; omega
  have s1 : Fl.sg (double.word true r) = true := by rw [Fl.word_t]; unfold Fl.sg; simp; omega
  have s2 : Fl.sg 14054727237768577024 = true := by decide
  have s3 : Fl.sg 4831355200913801216 = false := by decide
  have g0 : Fl.rung (double.word false r) = r := by rw [Fl.rung_eq, Fl.word_f]; omega
  have g1 : Fl.rung (double.word true r) = r := by rw [Fl.rung_eq, Fl.word_t]; omega
  have g2 : Fl.rung 14054727237768577024 = 4831355200913801216 := by rw [Fl.rung_eq]
  have g3 : Fl.rung 4831355200913801216 = 4831355200913801216 := by rw [Fl.rung_eq]
  have p2 : 0 < Fl.V 14054727237768577024 := by
    have := Fl.V_lt_iff.2 (show Fl.rung 0 < Fl.rung 14054727237768577024 by rw [g2]; decide)
    omega
  have p3 : 0 < Fl.V 4831355200913801216 := by
    have := Fl.V_lt_iff.2 (show Fl.rung 0 < Fl.rung 4831355200913801216 by rw [g3]; decide)
    omega
  rw [Fl.ord_fin _ _ e0 e2, Fl.ord_fin _ _ e0 e3, Fl.ord_fin _ _ e1 e2, Fl.ord_fin _ _ e1 e3, s0, s1, s2, s3]
  unfold Fl.sgn
  simp only [Bool.false_eq_true, if_false, if_true, Option.some.injEq]
  rw [Int.compare_eq_lt, Int.compare_eq_eq, Int.compare_eq_gt, Int.compare_eq_gt, Int.compare_eq_eq, Int.compare_eq_lt]
  have h : r < 4831355200913801216 ∨ r = 4831355200913801216 := by omega
  rcases h with h | h
  · have a0 := Fl.V_lt_iff.2 (show Fl.rung (double.word false r) < Fl.rung 4831355200913801216 by rw [g0, g3]; exact h)
    have a1 := Fl.V_lt_iff.2 (show Fl.rung (double.word true r) < Fl.rung 14054727237768577024 by rw [g1, g2]; exact h)
    refine ⟨Or.inl (by omega), by omega, Or.inl (by omega), by omega⟩
  · have a0 := Fl.V_eq_iff.2 (show Fl.rung (double.word false r) = Fl.rung 4831355200913801216 by rw [g0, g3]; exact h)
    have a1 := Fl.V_eq_iff.2 (show Fl.rung (double.word true r) = Fl.rung 14054727237768577024 by rw [g1, g2]; exact h)
    refine ⟨Or.inr (by omega), by omega, Or.inr (by omega), by omega⟩

/-! ### quotients -/
theorem sticky {m : Nat} {E : Int} (F : Fin m E) {q x : Nat} {p : Int} (hp : -1300 ≤ p) (hq : 9007199254740992 ≤ q) (h1 : N (2 * q) p < x) (h2 : x < N (2 * q + 2) p) (h : InX m E x) : InX m E (N (2 * q + 1) p) := by
  have hlt := F.lt
  have hlo := F.lo
  have hup : x ≤ N (2 * m + 1) (E - 1) := by
    have := h.2
    split at this
    · exact this
    · exact Nat.le_of_lt this
  have hpE : p < E - 1 := by
    rcases Int.lt_or_le p (E - 1) with g | g
    · exact g
    · exfalso
      obtain ⟨j, hj⟩ : ∃ j : Nat, p = E - 1 + j := ⟨(p - (E - 1)).toNat, by omega⟩
      rw [hj, N_up _ _ _ (by omega)] at h1
      have g1 : 2 * q * 1 ≤ 2 * q * 2 ^ j := Nat.mul_le_mul_left _ (pow_pos j)
      have := N_mono (h := 2 * m + 1) (g := 2 * q * 2 ^ j) (E - 1) (by omega)
      omega
  obtain ⟨j, hj⟩ : ∃ j : Nat, E - 1 = p + 1 + j := ⟨(E - 1 - p - 1).toNat, by omega⟩
  have hev : ∀ h, N h (E - 1) = N (2 * (h * 2 ^ j)) p := by intro h; rw [hj, N_up _ _ _ (by omega), N2 _ _ (by omega)]
  have hev2 : ∀ h, N h (E - 2) = N (h * 2 ^ j) p := by intro h; rw [show E - 2 = p + j from by omega, N_up _ _ _ (by omega)]
  have lo : ∀ h, N h (E - 1) ≤ x → N h (E - 1) < N (2 * q + 1) p := by
    intro h hh
    rw [hev] at hh ⊢
    have : 2 * (h * 2 ^ j) < 2 * q + 2 := N_of_lt (j := p) (by omega)
    exact N_lt _ (by omega)
  have hi : ∀ h, x ≤ N h (E - 1) → N (2 * q + 1) p < N h (E - 1) := by
    intro h hh
    rw [hev] at hh ⊢
    have : 2 * q < 2 * (h * 2 ^ j) := N_of_lt (j := p) (by omega)
    exact N_lt _ (by omega)
  have lo2 : ∀ h, N h (E - 2) ≤ x → N h (E - 2) ≤ N (2 * q + 1) p := by
    intro h hh
    rw [hev2] at hh ⊢
    have : h * 2 ^ j < 2 * q + 2 := N_of_lt (j := p) (by omega)
    exact N_mono _ (by omega)
  obtain ⟨c1, c2⟩ := h
  unfold InX
  refine ⟨?_, ?_⟩
  · split
    · rename_i c
      rw [if_pos c] at c1
      exact lo2 _ c1
    · rename_i c
      rw [if_neg c] at c1
      split at c1
      · rename_i c'
        rw [if_pos c']
        exact Nat.le_of_lt (lo _ c1)
      · rename_i c'
        rw [if_neg c']
        exact lo _ (Nat.le_of_lt c1)
  · split at c2
    · rename_i c'
      rw [if_pos c']
      exact Nat.le_of_lt (hi _ c2)
    · rename_i c'
      rw [if_neg c']
      exact hi _ (Nat.le_of_lt c2)
theorem div_in {m : Nat} {E : Int} (F : Fin m E) {x : Nat} {s : Bool} {d k : Nat} (hx : Wn s d x) (hk : k ≤ 22) (h : In m E d (-(k : Int))) : double.div x (pw k) = some (double.word s (rg m E)) := by
  obtain ⟨m1, p1, r1, e1, g1, g1', g1'', g1'''⟩ := hx
  obtain ⟨m2, p2, r2, e2, g2, g2', g2'', g2'''⟩ := pw_f k hk
  have hl1 : m1.log2 ≤ 52 := by have := (Nat.log2_lt (n := m1) (k := 53) (by omega)).2 g1'''; omega
  have hl2 : m2.log2 ≤ 52 := by have := (Nat.log2_lt (n := m2) (k := 53) (by omega)).2 g2'''; omega
  unfold Format.div
  rw [r1, r2]
  simp only [Datum.quotient]
  rw [if_neg (by omega), show double.fractionBits + 2 = 54 from rfl]
  simp only [Option.map_some, Format.write, Bool.xor_false]
  rw [Nat.shiftLeft_eq]
  generalize hmore : 54 + m2.log2 - m1.log2 = more
  have b1 := Nat.log2_self_le (n := m1) (by omega)
  have b2 := Nat.lt_log2_self (n := m2)
  have hq : 9007199254740992 ≤ m1 * 2 ^ more / m2 := by
    rw [Nat.le_div_iff_mul_le g2'']
    have h3 : 2 ^ m1.log2 * 2 ^ more ≤ m1 * 2 ^ more := Nat.mul_le_mul_right _ b1
    rw [← Nat.pow_add, show m1.log2 + more = 53 + (m2.log2 + 1) from by omega, Nat.pow_add] at h3
    have h4 : 2 ^ 53 * m2 ≤ 2 ^ 53 * 2 ^ (m2.log2 + 1) := Nat.mul_le_mul_left _ (by omega)
    rw [show (2 : Nat) ^ 53 = 9007199254740992 from rfl] at h3 h4
    omega
  have hdm := Nat.div_add_mod (m1 * 2 ^ more) m2
  have hml := Nat.mod_lt (m1 * 2 ^ more) g2''
  -- the number, times what it is by
  have hy : wv d (-(k : Int)) * (m2 * 2 ^ (p2 + 1400).toNat) = 2 * (m1 * 2 ^ more) * ten 0 * 2 ^ (p1 - p2 - more - 1 + p2 + 2800).toNat := by
    have q1 : wv d (-(k : Int)) * 10 ^ k = N d 0 := by
      unfold wv N ten
      rw [show ((0 : Int) + 400).toNat = (-(k : Int) + 400).toNat + k from by omega, show ((0 : Int) + 1400).toNat = 1400 from rfl, Nat.pow_add]
      generalize (2 : Nat) ^ 1400 = G
      grind
    have q2 : m2 * 2 ^ (p2 + 1400).toNat = 10 ^ k * 2 ^ 1400 := by
      unfold N at e2
      refine Nat.eq_of_mul_eq_mul_right (ten_pos 0) ?_
      rw [show ((0 : Int) + 1400).toNat = 1400 from rfl] at e2
      generalize (2 : Nat) ^ 1400 = G at *
      generalize ten 0 = T at *
      grind
    rw [q2, ← Nat.mul_assoc, q1, ← e1]
    unfold N
    have q3 : 2 ^ (p1 + 1400).toNat * 2 ^ 1400 = 2 * 2 ^ more * 2 ^ (p1 - p2 - more - 1 + p2 + 2800).toNat := by
      rw [show (2 : Nat) * 2 ^ more = 2 ^ (more + 1) from by rw [Nat.pow_succ, Nat.mul_comm], ← Nat.pow_add, ← Nat.pow_add]
      congr 1
      omega
    calc m1 * ten 0 * 2 ^ (p1 + 1400).toNat * 2 ^ 1400 = m1 * ten 0 * (2 ^ (p1 + 1400).toNat * 2 ^ 1400) := by grind
      _ = _ := by rw [q3]; grind
  have hN : ∀ h : Nat, N h (p1 - p2 - more - 1) * (m2 * 2 ^ (p2 + 1400).toNat) = h * m2 * ten 0 * 2 ^ (p1 - p2 - more - 1 + p2 + 2800).toNat := by
    intro h
    unfold N
    have q3 : 2 ^ (p1 - p2 - more - 1 + p2 + 2800).toNat = 2 ^ (p1 - p2 - more - 1 + 1400).toNat * 2 ^ (p2 + 1400).toNat := by
      rw [← Nat.pow_add]; congr 1; omega
    rw [q3]
    grind
  have hc : 0 < m2 * 2 ^ (p2 + 1400).toNat := Nat.mul_pos g2'' (pow_pos _)
  have hT : 0 < ten 0 := ten_pos 0
  have hG := pow_pos (p1 - p2 - more - 1 + p2 + 2800).toNat
  have hpl : -1300 ≤ p1 - p2 - more - 1 := by omega
  generalize hpl' : p1 - p2 - (more : Int) - 1 = pl at *
  generalize m1 * 2 ^ more / m2 = q at *
  generalize m1 * 2 ^ more % m2 = r at *
  rw [← hdm] at hy
  refine congrArg some (near F s _ _ hpl ?_)
  by_cases hr : r = 0
  · subst hr
    have : N (2 * q) pl = wv d (-(k : Int)) := by
      refine Nat.eq_of_mul_eq_mul_right hc ?_
      rw [hN, hy]
      congr 2
      rw [Nat.add_zero]
      grind
    rw [show (2 * q + ((0 : Nat) != 0).toNat) = 2 * q from rfl, this]
    exact inx.mp h
  · have hb : (r != 0).toNat = 1 := by simp [hr]
    rw [hb]
    refine sticky F hpl hq ?_ ?_ (inx.mp h)
    · refine Nat.lt_of_mul_lt_mul_right (a := m2 * 2 ^ (p2 + 1400).toNat) ?_
      rw [hN, hy]
      refine Nat.mul_lt_mul_of_pos_right (Nat.mul_lt_mul_of_pos_right ?_ hT) hG
      have : 2 * q * m2 = 2 * (m2 * q) := by grind
      omega
    · refine Nat.lt_of_mul_lt_mul_right (a := m2 * 2 ^ (p2 + 1400).toNat) ?_
      rw [hN, hy]
      refine Nat.mul_lt_mul_of_pos_right (Nat.mul_lt_mul_of_pos_right ?_ hT) hG
      have : (2 * q + 2) * m2 = 2 * (m2 * q) + 2 * m2 := by grind
      omega
end Sc
end Go.Proofs.YtedllapajgcfeaaGreatDoor
