/-
  Sums and means of plain float64 words as the model reckons them. No program in sight.
-/
import Derived.Test.YtedllapajgcfeaaGreatDoorDl2
namespace Go.Proofs.YtedllapajgcfeaaGreatDoor
set_option linter.unusedVariables false
set_option linter.unusedSimpArgs false
set_option exponentiation.threshold 3000
open Ieee

theorem nan_of_rung {b : Nat} (h : b % 9223372036854775808 ≤ 9218868437227405312) : nanB b = false := by
  cases hn : nanB b
  · rfl
  · have := (nanB_iff b).1 hn
    unfold Fl.Nan Fl.ex Fl.fr at this
    omega
theorem word_mod (s : Bool) (r : Nat) (h : r ≤ 9218868437227405312) : double.word s r % 9223372036854775808 = r ∧ double.word s r < 18446744073709551616 := by
  cases s
  · rw [Fl.word_f]; omega
  · rw [Fl.word_t]; omega
theorem nearest_nn (s : Bool) (mag : Nat) (place : Int) : nanB (double.nearest s mag place) = false ∧ double.nearest s mag place < 18446744073709551616 := by
  by_cases h : mag = 0
  · rw [h, show double.nearest s 0 place = double.word s 0 from rfl]
    have := word_mod s 0 (by omega)
    exact ⟨nan_of_rung (by rw [this.1]; omega), this.2⟩
  · rw [Fl.nearest_eq _ _ _ h]
    have := word_mod s _ (Nat.min_le_right ((max (place + (mag.log2 : Int) - 52) (-1074) - (-1074)).toNat * 4503599627370496 + Toward.even.cut s (mag <<< (place - max (place + (mag.log2 : Int) - 52) (-1074)).toNat) (max (place + (mag.log2 : Int) - 52) (-1074) - place).toNat) 9218868437227405312)
    exact ⟨nan_of_rung (by rw [this.1]; exact Nat.min_le_right _ _), this.2⟩
theorem inf_nn (s : Bool) : nanB (double.write (.infinity s)) = false ∧ double.write (.infinity s) < 18446744073709551616 := by
  cases s <;> decide +kernel
theorem write_nn (d : Datum) (h : d.isNaN = false) : nanB (double.write d) = false ∧ double.write d < 18446744073709551616 := by
  cases d with
  | number s m p => exact nearest_nn s m p
  | infinity s => exact inf_nn s
  | nan s t => cases h
/-- A word that is no NaN reads as a number or an infinity. -/
theorem read_nn {a : Nat} (h : nanB a = false) : (∃ s m p, double.read a = .number s m p) ∨ ∃ s, double.read a = .infinity s := by
  rcases Fl.fin_or (fun k => by rw [(nanB_iff a).2 k] at h; cases h) with k | ⟨k, k'⟩
  · exact Or.inl ⟨_, _, _, Fl.read_fin a k⟩
  · exact Or.inr ⟨_, Fl.read_inf a k k'⟩
theorem ex_mod (x : Nat) : Fl.ex (x % 9223372036854775808) = Fl.ex x ∧ Fl.fr (x % 9223372036854775808) = Fl.fr x ∧ Fl.sg (x % 9223372036854775808) = false := by
  refine ⟨by unfold Fl.ex; omega, by unfold Fl.fr; omega, ?_⟩
  unfold Fl.sg
  rw [Nat.div_eq_of_lt (by omega)]; rfl
theorem odd_iff (x : Nat) : oddB x = false ↔ Fl.ex x < 2047 := by
  obtain ⟨e1, e2, e3⟩ := ex_mod x
  have hr := Fl.rung_eq (x % 9223372036854775808)
  have hm : x % 9223372036854775808 % 9223372036854775808 = x % 9223372036854775808 := by omega
  rw [hm] at hr
  constructor
  · intro h
    unfold oddB at h
    have hn : nanB x = false := by cases hh : nanB x; rfl; rw [hh] at h; cases h
    rw [hn] at h
    rcases Fl.fin_or (fun k => by rw [(nanB_iff x).2 k] at hn; cases hn) with k | ⟨k, k'⟩
    · exact k
    · have hx : x % 9223372036854775808 = 9218868437227405312 := by rw [← hr, Fl.rung_inf (by rw [e1]; exact k) (by rw [e2]; exact k')]
      rw [hx] at h
      exact absurd h (by decide +kernel)
  · intro h
    unfold oddB
    have hn : nanB x = false := by
      cases hh : nanB x
      · rfl
      · have := (nanB_iff x).1 hh
        unfold Fl.Nan at this
        omega
    rw [hn]
    show gtB (x % 9223372036854775808) = false
    unfold gtB
    have hlt : x % 9223372036854775808 < 9218868437227405312 := by rw [← hr]; exact Fl.rung_fin (by rw [e1]; exact h)
    have ho : FloatKind.f64.format.order (x % 9223372036854775808) 9218868437227405311 = some (if x % 9223372036854775808 < 9218868437227405311 then .lt else if x % 9223372036854775808 = 9218868437227405311 then .eq else .gt) := Fl.ord_pos _ _ hlt (by decide)
    rw [ho]
    by_cases c : x % 9223372036854775808 < 9218868437227405311
    · rw [if_pos c]; rfl
    · rw [if_neg c, if_pos (by omega)]; rfl
theorem odd_nan {x : Nat} (h : oddB x = false) : nanB x = false := by
  cases hh : nanB x
  · rfl
  · unfold oddB at h; rw [hh] at h; cases h
def fadd (a b : Nat) : Nat := (double.add a b).getD 0
theorem add_ok {a b : Nat} (ha : nanB a = false) (hb : oddB b = false) : double.add a b = some (fadd a b) ∧ nanB (fadd a b) = false ∧ fadd a b < 18446744073709551616 := by
  have hd : ∃ d, (double.read a).sum (double.read b) = some d ∧ d.isNaN = false := by
    rw [Fl.read_fin b ((odd_iff b).1 hb)]
    rcases read_nn ha with ⟨s, m, p, h⟩ | ⟨s, h⟩
    · rw [h]; exact ⟨_, rfl, rfl⟩
    · rw [h]; exact ⟨_, rfl, rfl⟩
  obtain ⟨d, h1, h2⟩ := hd
  have e : double.add a b = some (double.write d) := by
    show ((double.read a).sum (double.read b)).map double.write = _
    rw [h1]; rfl
  have e2 : fadd a b = double.write d := by unfold fadd; rw [e]; rfl
  rw [e2]
  exact ⟨e, write_nn d h2⟩
def fsum (F : List Nat) : Nat := F.foldl fadd 0
theorem fold_ok (F : List Nat) (h : ∀ x ∈ F, oddB x = false) : ∀ a, nanB a = false → a < 18446744073709551616 → nanB (F.foldl fadd a) = false ∧ F.foldl fadd a < 18446744073709551616 := by
  induction F with
  | nil => intro a ha hb; exact ⟨ha, hb⟩
  | cons x F ih =>
    intro a ha hb
    have := add_ok ha (h x (by simp))
    exact ih (fun y hy => h y (by simp [hy])) _ this.2.1 this.2.2
theorem fsum_ok (F : List Nat) (h : ∀ x ∈ F, oddB x = false) : nanB (fsum F) = false ∧ fsum F < 18446744073709551616 := fold_ok F h 0 (by decide +kernel) (by decide)
theorem fsum_take (F : List Nat) (k : Nat) (h : k < F.length) : fsum (F.take (k + 1)) = fadd (fsum (F.take k)) (F.getD k 0) := by
  unfold fsum
  rw [List.take_succ_eq_append_getElem h, List.foldl_append]
  have e : F.getD k 0 = F[k] := by rw [List.getD_eq_getElem?_getD, List.getElem?_eq_getElem h]; rfl
  rw [e]; rfl
def fint (n : Nat) : Nat := floatOfInt .f64 (n : Int)
theorem fint_tab : ∀ n, n < 1001 → 1 ≤ n → (match double.read (fint n) with | .number false m _ => decide (m ≠ 0) | _ => false) = true := by decide +kernel
theorem fint_read {n : Nat} (h1 : 1 ≤ n) (h2 : n ≤ 1000) : ∃ m p, double.read (fint n) = .number false m p ∧ m ≠ 0 := by
  have h := fint_tab n (by omega) h1
  generalize double.read (fint n) = d at h
  cases d with
  | number s m p =>
    cases s
    · exact ⟨m, p, rfl, of_decide_eq_true h⟩
    · cases h
  | infinity s => cases h
  | nan s t => cases h
def fdiv (a b : Nat) : Nat := (double.div a b).getD 0
theorem div_ok {a n : Nat} (ha : nanB a = false) (h1 : 1 ≤ n) (h2 : n ≤ 1000) : double.div a (fint n) = some (fdiv a (fint n)) ∧ nanB (fdiv a (fint n)) = false ∧ fdiv a (fint n) < 18446744073709551616 := by
  obtain ⟨m, p, h, hm⟩ := fint_read h1 h2
  have hd : ∃ d, (double.read a).quotient (double.fractionBits + 2) (double.read (fint n)) = some d ∧ d.isNaN = false := by
    rw [h]
    rcases read_nn ha with ⟨s, m', p', h'⟩ | ⟨s, h'⟩
    · rw [h']
      simp only [Datum.quotient]
      rw [if_neg hm]
      exact ⟨_, rfl, rfl⟩
    · rw [h']; exact ⟨_, rfl, rfl⟩
  obtain ⟨d, h3, h4⟩ := hd
  have e : double.div a (fint n) = some (double.write d) := by
    show ((double.read a).quotient (double.fractionBits + 2) (double.read (fint n))).map double.write = _
    rw [h3]; rfl
  have e2 : fdiv a (fint n) = double.write d := by unfold fdiv; rw [e]; rfl
  rw [e2]
  exact ⟨e, write_nn d h4⟩
/-- What a tally of n numbers is, F the plain ones in order. -/
structure Ty where
  many : Nat
  odd : Nat
  least : Nat
  greatest : Nat
  mean : Nat
def tly (n : Nat) (F : List Nat) : Ty := if F = [] then ⟨n, n, 9218868437227405312, 18442240474082181120, 9221120237041090561⟩ else ⟨n, n - F.length, F.getD 0 0, F.getD (F.length - 1) 0, fdiv (fsum F) (fint F.length)⟩
def tyC (t : Ty) : List Value := [.int .i64 t.many, .int .i64 t.odd, .float .f64 t.least, .float .f64 t.greatest, .float .f64 t.mean]
theorem keep_odd (L : List Nat) : ∀ x ∈ keepL L, oddB x = false := fun x hx => by simpa using (List.mem_filter.1 hx).2
end Go.Proofs.YtedllapajgcfeaaGreatDoor
