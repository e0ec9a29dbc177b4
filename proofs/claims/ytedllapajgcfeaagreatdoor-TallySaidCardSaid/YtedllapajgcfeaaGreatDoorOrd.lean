/-
  The order of float64 words by one whole number each ('key'), and what a budget affords rises with it. No program in sight.
-/
import Derived.Test.YtedllapajgcfeaaGreatDoorFlt
namespace Go.Proofs.YtedllapajgcfeaaGreatDoor
set_option exponentiation.threshold 3000
namespace Fl
open Ieee

def key (b : Nat) : Int := sgn (sg b) (rung b)
theorem key_t {b : Nat} (h : sg b = true) : key b = -(rung b : Int) := by unfold key sgn; rw [h, if_pos rfl]
theorem key_f {b : Nat} (h : sg b = false) : key b = (rung b : Int) := by unfold key sgn; rw [h, if_neg Bool.false_ne_true]
theorem cmp_same {x y x' y' : Int} (h1 : x < y ↔ x' < y') (h2 : x = y ↔ x' = y') : compare x y = compare x' y' := by
  rcases Int.lt_trichotomy x y with g | g | g
  · rw [Int.compare_eq_lt.2 g, Int.compare_eq_lt.2 (h1.1 g)]
  · rw [Int.compare_eq_eq.2 g, Int.compare_eq_eq.2 (h2.1 g)]
  · have g1 : ¬ x' < y' := fun h => by have := h1.2 h; omega
    have g2 : ¬ x' = y' := fun h => by have := h2.2 h; omega
    rw [Int.compare_eq_gt.2 g, Int.compare_eq_gt.2 (by omega)]
theorem rung_zero : rung 0 = 0 := by decide
theorem V_rung0 (b : Nat) : V b = 0 ↔ rung b = 0 := by
  have := V_eq_iff (a := b) (b := 0)
  rw [V_zero, rung_zero] at this
  exact this
theorem rung_fin {b : Nat} (h : ex b < 2047) : rung b < 9218868437227405312 := by
  have := fr_lt b
  unfold rung; omega
theorem rung_inf {b : Nat} (h : ex b = 2047) (h' : fr b = 0) : rung b = 9218868437227405312 := by
  unfold rung; rw [h, h']
theorem ord_nan {a b : Nat} (h : Nan a ∨ Nan b) : double.order a b = none := by
  unfold Format.order
  rcases h with h | h
  · obtain ⟨t, e⟩ := read_nan a h.1 h.2
    rw [e]; rfl
  · obtain ⟨t, e⟩ := read_nan b h.1 h.2
    rw [e]; cases double.read a <;> rfl
theorem fin_or {b : Nat} (h : ¬ Nan b) : ex b < 2047 ∨ (ex b = 2047 ∧ fr b = 0) := by
  have := ex_lt b
  by_cases g : ex b < 2047
  · exact Or.inl g
  · refine Or.inr ⟨by omega, ?_⟩
    by_cases f : fr b = 0
    · exact f
    · exact absurd ⟨by omega, f⟩ h
theorem ord_key {a b : Nat} (ha : ¬ Nan a) (hb : ¬ Nan b) : double.order a b = some (compare (key a) (key b)) := by
  rcases fin_or ha with fa | ⟨ea, fa⟩
  · rcases fin_or hb with fb | ⟨eb, fb⟩
    · rw [ord_fin a b fa fb]
      congr 1
      have h1 := V_lt_iff (a := a) (b := b)
      have h2 := V_eq_iff (a := a) (b := b)
      have h3 := V_rung0 a
      have h4 := V_rung0 b
      have h5 := V_lt_iff (a := b) (b := a)
      unfold key
      generalize sg a = s
      generalize sg b = t
      generalize V a = x at *
      generalize V b = y at *
      generalize rung a = x' at *
      generalize rung b = y' at *
      refine cmp_same ?_ ?_ <;> unfold sgn <;> cases s <;> cases t <;> simp <;> omega
    · have r1 := rung_fin fa
      have r2 := rung_inf eb fb
      unfold Format.order
      rw [read_fin a fa, read_inf b eb fb]
      cases hs : sg b
      · rw [key_f hs, r2]
        have : compare (key a) ((9218868437227405312 : Nat) : Int) = .lt := by
          rw [Int.compare_eq_lt]
          unfold key sgn
          split <;> omega
        rw [this]; rfl
      · rw [key_t hs, r2]
        have : compare (key a) (-((9218868437227405312 : Nat) : Int)) = .gt := by
          rw [Int.compare_eq_gt]
          unfold key sgn
          split <;> omega
        rw [this]; rfl
  · have r2 := rung_inf ea fa
    rcases fin_or hb with fb | ⟨eb, fb⟩
    · have r1 := rung_fin fb
      unfold Format.order
      rw [read_fin b fb, read_inf a ea fa]
      cases hs : sg a
      · rw [key_f hs, r2]
        have : compare ((9218868437227405312 : Nat) : Int) (key b) = .gt := by
          rw [Int.compare_eq_gt]
          unfold key sgn
          split <;> omega
        rw [this]; rfl
      · rw [key_t hs, r2]
        have : compare (-((9218868437227405312 : Nat) : Int)) (key b) = .lt := by
          rw [Int.compare_eq_lt]
          unfold key sgn
          split <;> omega
        rw [this]; rfl
    · have r1 := rung_inf eb fb
      unfold Format.order
      rw [read_inf b eb fb, read_inf a ea fa]
      unfold key
      rw [r1, r2]
      cases sg a <;> cases sg b <;> decide
theorem aff_mono {a b : Nat} (ha : ¬ Nan a) (hb : ¬ Nan b) (h : key a ≤ key b) : aff a ≤ aff b := by
  unfold aff
  by_cases sa : sg a = true
  · rw [if_pos (Or.inl sa)]; omega
  · rw [if_neg (by rintro (g | g); · exact sa g
                   · exact ha g)]
    have sa' : sg a = false := by simpa using sa
    rw [key_f sa'] at h
    by_cases sb : sg b = true
    · rw [key_t sb] at h
      have r0 : rung a = 0 := by omega
      have := (V_rung0 a).2 r0
      unfold whole
      rw [this, Nat.zero_div]; omega
    · rw [if_neg (by rintro (g | g); · exact sb g
                     · exact hb g)]
      have sb' : sg b = false := by simpa using sb
      rw [key_f sb'] at h
      have hV : V a ≤ V b := by
        have := V_lt_iff (a := b) (b := a)
        omega
      have : whole a ≤ whole b := Nat.div_le_div_right hV
      omega
/-- How two words stand to each other, and what they afford. -/
theorem ord_cases (a b : Nat) : (double.order a b = none ∧ double.order b a = none) ∨ (double.order a b = some .lt ∧ aff a ≤ aff b) ∨ (double.order a b = some .eq ∧ aff a ≤ aff b) ∨ (double.order a b = some .gt ∧ double.order b a = some .lt ∧ aff b ≤ aff a) := by
  by_cases h : Nan a ∨ Nan b
  · exact Or.inl ⟨ord_nan h, ord_nan h.symm⟩
  · have ha : ¬ Nan a := fun g => h (Or.inl g)
    have hb : ¬ Nan b := fun g => h (Or.inr g)
    rw [ord_key ha hb, ord_key hb ha]
    rcases Int.lt_trichotomy (key a) (key b) with g | g | g
    · exact Or.inr (Or.inl ⟨by rw [Int.compare_eq_lt.2 g], aff_mono ha hb (by omega)⟩)
    · exact Or.inr (Or.inr (Or.inl ⟨by rw [Int.compare_eq_eq.2 g], aff_mono ha hb (by omega)⟩))
    · exact Or.inr (Or.inr (Or.inr ⟨by rw [Int.compare_eq_gt.2 g], by rw [Int.compare_eq_lt.2 g], aff_mono hb ha (by omega)⟩))
end Fl
end Go.Proofs.YtedllapajgcfeaaGreatDoor
