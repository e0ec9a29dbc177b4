/-
  The order of tally by one whole number each ('rk'). No program in sight.
-/
import Derived.Test.YtedllapajgcfeaaGreatDoorCmp
namespace Go.Proofs.YtedllapajgcfeaaGreatDoor
set_option linter.unusedVariables false
set_option linter.unusedSimpArgs false

/-- A number's place in the order. -/
def rk (x : Nat) : Int := if nanB x then -100000000000000000000 else 2 * Fl.key x + zz x
def c3 (x y : Int) : Int := if x < y then -1 else if x = y then 0 else 1
theorem oi_cmp (x y : Int) : oi (compare x y) = c3 x y := by
  unfold c3
  rcases Int.lt_trichotomy x y with g | g | g
  · rw [Int.compare_eq_lt.2 g, if_pos g]; rfl
  · rw [Int.compare_eq_eq.2 g, if_neg (by omega), if_pos g]; rfl
  · rw [Int.compare_eq_gt.2 g, if_neg (by omega), if_neg (by omega)]; rfl
theorem rung_lt (b : Nat) : Fl.rung b < 9223372036854775808 := by
  have h1 := Fl.fr_lt b
  have h2 := Fl.ex_lt b
  unfold Fl.rung
  omega
theorem key_bd (b : Nat) : -9223372036854775808 < Fl.key b ∧ Fl.key b < 9223372036854775808 := by
  have := rung_lt b
  cases h : Fl.sg b
  · rw [Fl.key_f h]; omega
  · rw [Fl.key_t h]; omega
theorem zz_cases (x : Nat) : (Fl.key x = 0 ∧ nanB x = false ∧ ((Fl.sg x = true ∧ zz x = -1) ∨ (Fl.sg x = false ∧ zz x = 1))) ∨ ((¬ Fl.key x = 0 ∨ nanB x = true) ∧ zz x = 0) := by
  unfold zz
  cases hn : nanB x
  · by_cases hk : Fl.key x = 0
    · left
      refine ⟨hk, rfl, ?_⟩
      rw [if_neg (by decide), if_pos hk]
      cases Fl.sg x
      · right; exact ⟨rfl, rfl⟩
      · left; exact ⟨rfl, rfl⟩
    · right
      exact ⟨Or.inl hk, by rw [if_neg (by decide), if_neg hk]⟩
  · right; exact ⟨Or.inr rfl, rfl⟩
theorem rk_nan {x : Nat} (h : nanB x = true) : rk x = -100000000000000000000 := by unfold rk; rw [h]; rfl
theorem rk_num {x : Nat} (h : nanB x = false) : rk x = 2 * Fl.key x + zz x := by unfold rk; rw [h]; rfl
theorem rk_gt {x : Nat} (h : nanB x = false) : -100000000000000000000 < rk x := by
  rw [rk_num h]
  have := key_bd x
  rcases zz_cases x with ⟨_, _, ⟨_, e⟩ | ⟨_, e⟩⟩ | ⟨_, e⟩ <;> omega
theorem cp_rk (a b : Nat) : cp a b = c3 (rk a) (rk b) := by
  unfold cp orI fc
  cases ha : nanB a
  · cases hb : nanB b
    · simp only [Bool.false_eq_true, if_false]
      rw [oi_cmp, rk_num ha, rk_num hb]
      have za := zz_cases a
      have zb := zz_cases b
      rw [ha] at za
      rw [hb] at zb
      unfold c3 ci
      generalize Fl.key a = x at *
      generalize Fl.key b = y at *
      generalize zz a = p at *
      generalize zz b = q at *
      simp only [Bool.false_eq_true, or_false] at za zb
      have hp : (x = 0 ∧ (p = -1 ∨ p = 1)) ∨ (¬ x = 0 ∧ p = 0) := by
        rcases za with ⟨h, _, ⟨_, e⟩ | ⟨_, e⟩⟩ | ⟨h, e⟩
        · exact Or.inl ⟨h, Or.inl e⟩
        · exact Or.inl ⟨h, Or.inr e⟩
        · exact Or.inr ⟨h, e⟩
      have hq : (y = 0 ∧ (q = -1 ∨ q = 1)) ∨ (¬ y = 0 ∧ q = 0) := by
        rcases zb with ⟨h, _, ⟨_, e⟩ | ⟨_, e⟩⟩ | ⟨h, e⟩
        · exact Or.inl ⟨h, Or.inl e⟩
        · exact Or.inl ⟨h, Or.inr e⟩
        · exact Or.inr ⟨h, e⟩
      clear za zb
      repeat' split
      all_goals omega
    · simp only [Bool.false_eq_true, if_false, if_true]
      have := rk_gt ha
      rw [rk_nan hb]
      unfold c3
      rw [if_neg (by decide), if_neg (by omega), if_neg (by omega)]
  · cases hb : nanB b
    · simp only [Bool.false_eq_true, if_false, if_true]
      have := rk_gt hb
      rw [rk_nan ha]
      unfold c3
      rw [if_neg (by decide), if_pos this]
    · simp only [if_true]
      rw [rk_nan ha, rk_nan hb]
      have h1 : zz a = 0 := by unfold zz; rw [ha]; rfl
      have h2 : zz b = 0 := by unfold zz; rw [hb]; rfl
      rw [h1, h2]
      rfl
theorem c3_cases (x y : Int) : (c3 x y = -1 ∧ x < y) ∨ (c3 x y = 0 ∧ x = y) ∨ (c3 x y = 1 ∧ y < x) := by
  unfold c3
  rcases Int.lt_trichotomy x y with g | g | g
  · left; exact ⟨by rw [if_pos g], g⟩
  · right; left; exact ⟨by rw [if_neg (by omega), if_pos g], g⟩
  · right; right; exact ⟨by rw [if_neg (by omega), if_neg (by omega)], g⟩
/-- Words of numbers that stand at one place are one. -/
theorem rk_inj {a b : Nat} (ha : a < 18446744073709551616) (hb : b < 18446744073709551616) (na : nanB a = false) (nb : nanB b = false) (h : rk a = rk b) : a = b := by
  rw [rk_num na, rk_num nb] at h
  have za := zz_cases a
  have zb := zz_cases b
  have ra := Fl.rung_eq a
  have rb := Fl.rung_eq b
  have la := rung_lt a
  have lb := rung_lt b
  have sa : ∀ b : Nat, b < 18446744073709551616 → (Fl.sg b = true ∧ b = 9223372036854775808 + b % 9223372036854775808) ∨ (Fl.sg b = false ∧ b = b % 9223372036854775808) := by
    intro b hb
    unfold Fl.sg
    rcases Nat.lt_or_ge b 9223372036854775808 with h | h
    · right
      exact ⟨by rw [Nat.div_eq_of_lt h]; rfl, (Nat.mod_eq_of_lt h).symm⟩
    · left
      refine ⟨?_, by omega⟩
      have : b / 9223372036854775808 = 1 := by omega
      rw [this]; rfl
  have s1 := sa a ha
  have s2 := sa b hb
  rw [← ra] at s1
  rw [← rb] at s2
  rw [na] at za
  rw [nb] at zb
  cases hsa : Fl.sg a <;> cases hsb : Fl.sg b
  all_goals
    first
      | rw [Fl.key_t hsa] at za h
      | rw [Fl.key_f hsa] at za h
    first
      | rw [Fl.key_t hsb] at zb h
      | rw [Fl.key_f hsb] at zb h
    rw [hsa] at s1 za
    rw [hsb] at s2 zb
    simp at s1 s2 za zb
    omega
theorem rk_inf_up (a : Nat) : rk a ≤ rk 9218868437227405312 := by
  have e : rk 9218868437227405312 = 18437736874454810624 := by decide +kernel
  rw [e]
  cases hn : nanB a
  · rw [rk_num hn]
    have hnn : ¬ Fl.Nan a := fun h => by rw [(nanB_iff a).2 h] at hn; cases hn
    have hr : Fl.rung a ≤ 9218868437227405312 := by
      rcases Fl.fin_or hnn with h | ⟨h, h'⟩
      · exact Nat.le_of_lt (Fl.rung_fin h)
      · rw [Fl.rung_inf h h']; exact Nat.le_refl _
    have hk : Fl.key a ≤ 9218868437227405312 := by
      cases hs : Fl.sg a
      · rw [Fl.key_f hs]; omega
      · rw [Fl.key_t hs]; omega
    rcases zz_cases a with ⟨h0, _, ⟨_, e⟩ | ⟨_, e⟩⟩ | ⟨_, e⟩ <;> omega
  · rw [rk_nan hn]; decide
theorem rk_inf_down {a : Nat} (hn : nanB a = false) : rk 18442240474082181120 ≤ rk a := by
  have e : rk 18442240474082181120 = -18437736874454810624 := by decide +kernel
  rw [e, rk_num hn]
  have hnn : ¬ Fl.Nan a := fun h => by rw [(nanB_iff a).2 h] at hn; cases hn
  have hr : Fl.rung a ≤ 9218868437227405312 := by
    rcases Fl.fin_or hnn with h | ⟨h, h'⟩
    · exact Nat.le_of_lt (Fl.rung_fin h)
    · rw [Fl.rung_inf h h']; exact Nat.le_refl _
  have hk : -9218868437227405312 ≤ Fl.key a := by
    cases hs : Fl.sg a
    · rw [Fl.key_f hs]; omega
    · rw [Fl.key_t hs]; omega
  rcases zz_cases a with ⟨h0, _, ⟨_, e⟩ | ⟨_, e⟩⟩ | ⟨_, e⟩ <;> omega
theorem rk_nan_down (a : Nat) : rk 9221120237041090561 ≤ rk a := by
  have e : rk 9221120237041090561 = -100000000000000000000 := by decide +kernel
  rw [e]
  cases hn : nanB a
  · exact Int.le_of_lt (rk_gt hn)
  · rw [rk_nan hn]; exact Int.le_refl _
/-- Less as floats: ahead. -/
theorem rk_lt {a b : Nat} (na : nanB a = false) (nb : nanB b = false) (h : Fl.key a < Fl.key b) : rk a < rk b := by
  rw [rk_num na, rk_num nb]
  rcases zz_cases a with ⟨h0, _, ⟨_, e⟩ | ⟨_, e⟩⟩ | ⟨_, e⟩ <;> rcases zz_cases b with ⟨h0', _, ⟨_, e'⟩ | ⟨_, e'⟩⟩ | ⟨_, e'⟩ <;> omega
end Go.Proofs.YtedllapajgcfeaaGreatDoor
