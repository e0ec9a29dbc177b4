/-
  The float64 that is nearest to a number between the midpoints around a float64 is that float64; so a whole number times or by a power of ten, done in floats, is read as it should be. No program in sight.
-/
import Derived.Test.YtedllapajgcfeaaGreatDoorFml
import Derived.Test.YtedllapajgcfeaaGreatDoorFlt
namespace Go.Proofs.YtedllapajgcfeaaGreatDoor
set_option linter.unusedVariables false
set_option linter.unusedSimpArgs false
namespace Sc
set_option exponentiation.threshold 5000
set_option maxRecDepth 20000
open Ieee

def InX (m : Nat) (E : Int) (x : Nat) : Prop :=
  (if m = 4503599627370496 ∧ -1074 < E then N (4 * m - 1) (E - 2) ≤ x else if m % 2 = 0 then N (2 * m - 1) (E - 1) ≤ x else N (2 * m - 1) (E - 1) < x) ∧
  (if m % 2 = 0 then x ≤ N (2 * m + 1) (E - 1) else x < N (2 * m + 1) (E - 1))
theorem inx {m : Nat} {E : Int} {d : Nat} {P : Int} : In m E d P ↔ InX m E (wv d P) := Iff.rfl
theorem inx_self {m : Nat} {E : Int} (F : Fin m E) : InX m E (N m E) := by
  have h1 := F.lo
  have h2 := F.pos
  have e := N2 m (E - 1) (by omega)
  rw [show E - 1 + 1 = E from by omega] at e
  have e4 := N4 m (E - 2) (by omega)
  rw [show E - 2 + 2 = E from by omega] at e4
  have g1 := N_lt (h := 2 * m - 1) (g := 2 * m) (E - 1) (by omega)
  have g2 := N_lt (h := 2 * m) (g := 2 * m + 1) (E - 1) (by omega)
  have g3 := N_lt (h := 4 * m - 1) (g := 4 * m) (E - 2) (by omega)
  unfold InX
  refine ⟨?_, ?_⟩
  · split
    · rw [e4]; omega
    · split <;> (rw [e]; omega)
  · split <;> (rw [e]; omega)

/-- The rung of the float64. -/
def rg (m : Nat) (E : Int) : Nat := (E + 1074).toNat * 4503599627370496 + m

theorem cut_even_spec (s : Bool) (n g : Nat) : ∃ k, Toward.even.cut s n g = k ∧ 2 * k * 2 ^ g ≤ 2 * n + 2 ^ g ∧ 2 * n ≤ 2 * k * 2 ^ g + 2 ^ g ∧ (k % 2 = 1 → 2 * k * 2 ^ g < 2 * n + 2 ^ g ∧ 2 * n < 2 * k * 2 ^ g + 2 ^ g) := by
  refine ⟨_, rfl, ?_⟩
  simp only [Toward.cut]
  rw [Nat.shiftLeft_eq, Nat.one_mul]
  -- the whole of n dropped
  by_cases hg : g ≤ n.log2 + 2
  · rw [Nat.min_eq_left hg]
    have hp := pow_pos g
    generalize 2 ^ g = G at *
    have hm := Nat.div_add_mod n G
    have hl := Nat.mod_lt n hp
    generalize n / G = q at *
    generalize n % G = r at *
    have e1 : 2 * q * G = 2 * (G * q) := by grind
    have e2 : 2 * (q + 1) * G = 2 * (G * q) + 2 * G := by grind
    by_cases c : G < 2 * r ∨ (G = 2 * r ∧ q % 2 = 1)
    · have hb : (decide (G < 2 * r) || (G == 2 * r && q % 2 == 1)).toNat = 1 := by
        rcases c with c | ⟨c1, c2⟩
        · simp [c]
        · simp [← c1, c2]
      rw [hb, e2]
      refine ⟨by omega, by omega, fun h => ?_⟩
      rcases c with c | ⟨c1, c2⟩
      · omega
      · omega
    · have hb : (decide (G < 2 * r) || (G == 2 * r && q % 2 == 1)).toNat = 0 := by
        have c1 : ¬ G < 2 * r := fun h => c (Or.inl h)
        have c2 : ¬ (G = 2 * r ∧ q % 2 = 1) := fun h => c (Or.inr h)
        simp only [Bool.toNat_eq_zero, Bool.or_eq_false_iff, decide_eq_false_iff_not, Bool.and_eq_false_iff, beq_eq_false_iff_ne]
        refine ⟨c1, ?_⟩
        by_cases h : G = 2 * r
        · right; exact fun e => c2 ⟨h, e⟩
        · left; exact h
      rw [hb, Nat.add_zero, e1]
      refine ⟨by omega, by omega, fun h => ?_⟩
      have c1 : ¬ G < 2 * r := fun h => c (Or.inl h)
      have c2 : G ≠ 2 * r := fun h2 => c (Or.inr ⟨h2, h⟩)
      omega
  · rw [Nat.min_eq_right (by omega)]
    have h1 : n < 2 ^ (n.log2 + 1) := Nat.lt_log2_self
    have h2 : 2 ^ (n.log2 + 2) = 2 * 2 ^ (n.log2 + 1) := by rw [Nat.pow_succ, Nat.mul_comm]
    have h3 : 2 ^ (n.log2 + 2) ≤ 2 ^ g := Nat.pow_le_pow_right (by omega) (by omega)
    rw [Nat.div_eq_of_lt (by omega), Nat.mod_eq_of_lt (by omega)]
    have hb : (decide (2 ^ (n.log2 + 2) < 2 * n) || (2 ^ (n.log2 + 2) == 2 * n && 0 % 2 == 1)).toNat = 0 := by
      have : ¬ 2 ^ (n.log2 + 2) < 2 * n := by omega
      simp [this]
    rw [hb]
    refine ⟨by omega, by omega, fun h => by omega⟩

/-- What rounding does: the last place kept, and how many units of it. -/
theorem nearest_spec (s : Bool) (mag : Nat) (place : Int) (hm : 0 < mag) (hp : -1300 ≤ place) : ∃ (last : Int) (k : Nat), double.nearest s mag place = double.word s (min ((last + 1074).toNat * 4503599627370496 + k) 9218868437227405312) ∧
    -1074 ≤ last ∧ N mag place < N 9007199254740992 last ∧ (-1074 < last → N 4503599627370496 last ≤ N mag place) ∧
    N (2 * k) (last - 1) ≤ N mag place + N 1 (last - 1) ∧ N mag place ≤ N (2 * k + 1) (last - 1) ∧ (k % 2 = 1 → N (2 * k) (last - 1) < N mag place + N 1 (last - 1) ∧ N mag place < N (2 * k + 1) (last - 1)) := by
  have hlg := Nat.log2_self_le (n := mag) (by omega)
  have hlg2 := Nat.lt_log2_self (n := mag)
  generalize hL : mag.log2 = L at *
  refine ⟨max (place + L - 52) (-1074), Toward.even.cut s (mag <<< (place - max (place + L - 52) (-1074)).toNat) (max (place + L - 52) (-1074) - place).toNat, ?_, by omega, ?_, ?_, ?_⟩
  · rw [Fl.nearest_eq _ _ _ (by omega), hL]
    rw [show max (place + (L : Int) - 52) (-1074) - (-1074) = max (place + (L : Int) - 52) (-1074) + 1074 from by omega]
  · have h1 : N mag place < N (1 * 2 ^ (L + 1)) place := N_lt _ (by omega)
    rw [← N_up _ _ _ (by omega)] at h1
    have h2 : N 1 (place + ((L + 1 : Nat) : Int)) ≤ N 9007199254740992 (max (place + (L : Int) - 52) (-1074)) := by
      have e := N_up 1 53 (max (place + (L : Int) - 52) (-1074)) (by omega)
      rw [Nat.one_mul, show (2 : Nat) ^ 53 = 9007199254740992 from rfl] at e
      rw [← e]
      obtain ⟨j, hj⟩ : ∃ j : Nat, max (place + (L : Int) - 52) (-1074) + ((53 : Nat) : Int) = place + ((L + 1 : Nat) : Int) + j := ⟨(max (place + (L : Int) - 52) (-1074) + 53 - (place + L + 1)).toNat, by omega⟩
      rw [hj, N_up 1 j _ (by omega)]
      exact N_mono _ (by have := pow_pos j; omega)
    omega
  · intro h
    have e : max (place + (L : Int) - 52) (-1074) = place + L - 52 := by omega
    rw [e]
    have e1 := N_up 1 52 (place + L - 52) (by omega)
    rw [Nat.one_mul, show (2 : Nat) ^ 52 = 4503599627370496 from rfl] at e1
    rw [← e1, show place + (L : Int) - 52 + ((52 : Nat) : Int) = place + L from by omega, N_up _ _ _ (by omega)]
    exact N_mono _ (by omega)
  · generalize hlast : max (place + (L : Int) - 52) (-1074) = last
    obtain ⟨k, hk, c1, c2, c3⟩ := cut_even_spec s (mag <<< (place - last).toNat) (last - place).toNat
    rw [hk]
    rw [Nat.shiftLeft_eq] at c1 c2 c3
    -- all in the least unit
    have hu : ∀ h : Nat, N (h * 2 ^ (last - place).toNat) (min place last - 1) = N h (last - 1) := by
      intro h
      rw [← N_up _ _ _ (by omega)]
      congr 1
      omega
    have hx : N (2 * (mag * 2 ^ (place - last).toNat)) (min place last - 1) = N mag place := by
      rw [show 2 * (mag * 2 ^ (place - last).toNat) = mag * 2 ^ ((place - last).toNat + 1) from by rw [Nat.pow_succ]; grind, ← N_up _ _ _ (by omega)]
      congr 1
      omega
    have nadd : ∀ (a b : Nat) (j : Int), N (a + b) j = N a j + N b j := by intro a b j; unfold N; grind
    have f1 := N_mono (min place last - 1) c1
    have f2 := N_mono (min place last - 1) c2
    have e1 : 2 ^ (last - place).toNat = 1 * 2 ^ (last - place).toNat := by rw [Nat.one_mul]
    have g1 : 2 * k * 2 ^ (last - place).toNat + 2 ^ (last - place).toNat = (2 * k + 1) * 2 ^ (last - place).toNat := by rw [Nat.add_mul, Nat.one_mul]
    rw [hu, nadd, hx, e1, hu] at f1
    rw [g1, hx, hu] at f2
    refine ⟨f1, f2, fun h => ?_⟩
    obtain ⟨c3, c4⟩ := c3 h
    have f3 := N_lt (min place last - 1) c3
    have f4 := N_lt (min place last - 1) c4
    rw [hu, nadd, hx, e1, hu] at f3
    rw [g1, hx, hu] at f4
    exact ⟨f3, f4⟩

theorem rg_lt {m : Nat} {E : Int} (F : Fin m E) : rg m E < 9218868437227405312 := by
  have := F.lt
  have := F.hi
  have := F.lo
  unfold rg
  omega
/-- The nearest one. -/
theorem near {m : Nat} {E : Int} (F : Fin m E) (s : Bool) (mag : Nat) (place : Int) (hp : -1300 ≤ place) (h : InX m E (N mag place)) : double.nearest s mag place = double.word s (rg m E) := by
  have hpos := F.pos
  have hlo := F.lo
  have hlt := F.lt
  have hsub := F.sub
  have hhi := F.hi
  have hmag : 0 < mag := by
    rcases Nat.eq_zero_or_pos mag with z | z
    · exfalso
      rw [z] at h
      have h0 : N 0 place = 0 := by unfold N; rw [Nat.zero_mul, Nat.zero_mul]
      rw [h0] at h
      have h1 := h.1
      have g1 : 0 < N (2 * m - 1) (E - 1) := N_pos _ (by omega)
      have g2 : 0 < N (4 * m - 1) (E - 2) := N_pos _ (by omega)
      split at h1
      · omega
      · split at h1 <;> omega
    · exact z
  obtain ⟨last, k, e, l1, l2, l3, l4, l5, l6⟩ := nearest_spec s mag place hmag hp
  rw [e]
  have rlt := rg_lt F
  suffices hh : (last + 1074).toNat * 4503599627370496 + k = rg m E by rw [hh, Nat.min_eq_left (by omega)]
  generalize N mag place = x at *
  -- the interval
  have a1 : N (2 * m) (E - 1) ≤ x + N 1 (E - 1) ∧ (m % 2 = 1 → N (2 * m) (E - 1) < x + N 1 (E - 1)) ∧ (m = 4503599627370496 → -1074 < E → N (4 * m - 1) (E - 2) ≤ x) := by
    have n1 : N (2 * m) (E - 1) = N (2 * m - 1) (E - 1) + N 1 (E - 1) := by
      have : 2 * m - 1 + 1 = 2 * m := by omega
      rw [← this]; unfold N; grind
    have h1 := h.1
    split at h1
    · rename_i c
      have g := N_lt (h := 4 * m - 2) (g := 4 * m - 1) (E - 2) (by omega)
      have e1 := N2 (2 * m - 1) (E - 2) (by omega)
      rw [show E - 2 + 1 = E - 1 from by omega, show 2 * (2 * m - 1) = 4 * m - 2 from by omega] at e1
      exact ⟨by omega, by omega, fun _ _ => h1⟩
    · rename_i c
      split at h1
      · exact ⟨by omega, by omega, fun q1 q2 => absurd ⟨q1, q2⟩ c⟩
      · exact ⟨by omega, fun _ => by omega, fun q1 q2 => absurd ⟨q1, q2⟩ c⟩
  have a2 : x ≤ N (2 * m + 1) (E - 1) ∧ (m % 2 = 1 → x < N (2 * m + 1) (E - 1)) := by
    have h1 := h.2
    split at h1
    · exact ⟨h1, by omega⟩
    · exact ⟨by omega, fun _ => h1⟩
  obtain ⟨b1, b2, b3⟩ := a1
  obtain ⟨b4, b5⟩ := a2
  have nadd : ∀ (a b : Nat) (j : Int), N (a + b) j = N a j + N b j := by intro a b j; unfold N; grind
  -- E < last can't be
  have q1 : last ≤ E := by
    rcases Int.lt_or_le E last with g | g
    · exfalso
      have h3 := l3 (by omega)
      obtain ⟨j, rfl⟩ : ∃ j : Nat, last = E + 1 + j := ⟨(last - E - 1).toNat, by omega⟩
      rw [N_up _ _ _ (by omega)] at h3
      have h4 := N_mono (h := 4503599627370496) (g := 4503599627370496 * 2 ^ j) (E + 1) (Nat.le_mul_of_pos_right _ (pow_pos j))
      have h5 := N4 4503599627370496 (E - 1) (by omega)
      rw [show E - 1 + 2 = E + 1 from by omega] at h5
      have h6 := N_lt (h := 2 * m + 1) (g := 4 * 4503599627370496) (E - 1) (by omega)
      omega
    · exact g
  by_cases q2 : last = E
  · -- as many units
    subst q2
    have : k = m := by
      rcases Nat.lt_trichotomy k m with g | g | g
      · exfalso
        have h1 := N_mono (h := 2 * k + 1 + 1) (g := 2 * m) (last - 1) (by omega)
        rw [nadd (2 * k + 1) 1] at h1
        by_cases ho : m % 2 = 1
        · have := b2 ho
          omega
        · have hk : k = m - 1 ∨ k < m - 1 := by omega
          rcases hk with hk | hk
          · have := (l6 (by omega)).2
            omega
          · have h2 := N_lt (h := 2 * k + 1 + 1) (g := 2 * m) (last - 1) (by omega)
            rw [nadd (2 * k + 1) 1] at h2
            omega
      · exact g
      · exfalso
        have h1 := N_mono (h := 2 * m + 1 + 1) (g := 2 * k) (last - 1) (by omega)
        rw [nadd (2 * m + 1) 1] at h1
        by_cases ho : m % 2 = 1
        · have := b5 ho
          omega
        · have hk : k = m + 1 ∨ m + 1 < k := by omega
          rcases hk with hk | hk
          · have := (l6 (by omega)).1
            omega
          · have h2 := N_lt (h := 2 * m + 1 + 1) (g := 2 * k) (last - 1) (by omega)
            rw [nadd (2 * m + 1) 1] at h2
            omega
    rw [this]
    rfl
  · -- one place less: it carries
    have q3 : last < E := by omega
    have hm52 : 4503599627370496 ≤ m := by
      rcases Nat.lt_or_ge m 4503599627370496 with g | g
      · have := hsub g; omega
      · exact g
    have hx : x < N 9007199254740992 (E - 1) := by
      obtain ⟨j, hj⟩ : ∃ j : Nat, E - 1 = last + j := ⟨(E - 1 - last).toNat, by omega⟩
      rw [hj, N_up _ _ _ (by omega)]
      have := N_mono (h := 9007199254740992) (g := 9007199254740992 * 2 ^ j) last (Nat.le_mul_of_pos_right _ (pow_pos j))
      omega
    have hm : m = 4503599627370496 := by
      rcases Nat.lt_or_ge 4503599627370496 m with g | g
      · exfalso
        have h1 := N_mono (h := 9007199254740992 + 1) (g := 2 * m) (E - 1) (by omega)
        rw [nadd 9007199254740992 1] at h1
        omega
      · omega
    subst hm
    have h3 := b3 rfl (by omega)
    have hE : last = E - 1 := by
      rcases Int.lt_or_le last (E - 1) with g | g
      · exfalso
        obtain ⟨j, hj⟩ : ∃ j : Nat, E - 2 = last + j := ⟨(E - 2 - last).toNat, by omega⟩
        rw [hj, N_up _ _ _ (by omega)] at h3
        have := N_mono (h := 9007199254740992) (g := (4 * 4503599627370496 - 1) * 2 ^ j) last (by have := pow_pos j; have := Nat.mul_le_mul_left (4 * 4503599627370496 - 1) this; omega)
        omega
      · omega
    subst hE
    rw [show E - 1 - 1 = E - 2 from by omega] at l4 l5 l6
    have hk1 : 9007199254740992 ≤ k := by
      rcases Nat.lt_or_ge k 9007199254740992 with g | g
      · exfalso
        have hk : k < 9007199254740991 ∨ k = 9007199254740991 := by omega
        rcases hk with hk | hk
        · have := N_lt (h := 2 * k + 1) (g := 4 * 4503599627370496 - 1) (E - 2) (by omega)
          omega
        · have := (l6 (by omega)).2
          rw [hk] at this
          rw [show 2 * 9007199254740991 + 1 = 4 * 4503599627370496 - 1 from rfl] at this
          omega
      · exact g
    have hk2 : k ≤ 9007199254740992 := by
      rcases Nat.lt_or_ge 9007199254740992 k with g | g
      · exfalso
        have h4 := N2 9007199254740992 (E - 2) (by omega)
        rw [show E - 2 + 1 = E - 1 from by omega] at h4
        have h5 := N_mono (h := 2 * 9007199254740992 + 1) (g := 2 * k) (E - 2) (by omega)
        rw [nadd (2 * 9007199254740992) 1] at h5
        omega
      · exact g
    unfold rg
    omega
end Sc
end Go.Proofs.YtedllapajgcfeaaGreatDoor
