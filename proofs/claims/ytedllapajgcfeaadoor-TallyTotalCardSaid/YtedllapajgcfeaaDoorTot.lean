/-
  Law 05's TallyTotal: walked.
-/
import Derived.Test.YtedllapajgcfeaaDoorRk
import Derived.Test.YtedllapajgcfeaaDoorAwk5
namespace Go.Proofs.YtedllapajgcfeaaDoor
set_option linter.unusedVariables false
set_option linter.unusedSimpArgs false
open Go.RowKit Go.Proofs.YtedllapajgcfeaaDoorW.PrintWords

/-- What the law asks of the order, way by way. -/
theorem total_ways (a b : Nat) (ha : a < 18446744073709551616) (hb : b < 18446744073709551616) :
    (nanB a = true ∧ nanB b = true ∧ FloatKind.f64.format.order a a = none ∧ FloatKind.f64.format.order b b = none ∧ FloatKind.f64.format.order a b = none ∧ cp a b = 0 ∧ cp b a = 0) ∨
    (nanB a = true ∧ FloatKind.f64.format.order a a = none ∧ FloatKind.f64.format.order b b = some .eq ∧ FloatKind.f64.format.order a b = none ∧ cp a b = -1 ∧ cp b a = 1 ∧ ((a : Int) == (b : Int)) = false) ∨
    (nanB a = false ∧ FloatKind.f64.format.order a a = some .eq ∧ FloatKind.f64.format.order b b = none ∧ FloatKind.f64.format.order a b = none ∧ cp a b = 1 ∧ cp b a = -1 ∧ ((a : Int) == (b : Int)) = false) ∨
    (nanB a = false ∧ FloatKind.f64.format.order a a = some .eq ∧ FloatKind.f64.format.order b b = some .eq ∧ FloatKind.f64.format.order a b = some .lt ∧ cp a b = -1 ∧ cp b a = 1 ∧ ((a : Int) == (b : Int)) = false) ∨
    (nanB a = false ∧ FloatKind.f64.format.order a a = some .eq ∧ FloatKind.f64.format.order b b = some .eq ∧ FloatKind.f64.format.order a b = some .eq ∧ cp a b = -1 ∧ cp b a = 1 ∧ ((a : Int) == (b : Int)) = false) ∨
    (nanB a = false ∧ FloatKind.f64.format.order a a = some .eq ∧ FloatKind.f64.format.order b b = some .eq ∧ FloatKind.f64.format.order a b = some .eq ∧ cp a b = 0 ∧ cp b a = 0 ∧ ((a : Int) == (b : Int)) = true) ∨
    (nanB a = false ∧ FloatKind.f64.format.order a a = some .eq ∧ FloatKind.f64.format.order b b = some .eq ∧ FloatKind.f64.format.order a b = some .eq ∧ cp a b = 1 ∧ cp b a = -1 ∧ ((a : Int) == (b : Int)) = false) ∨
    (nanB a = false ∧ FloatKind.f64.format.order a a = some .eq ∧ FloatKind.f64.format.order b b = some .eq ∧ FloatKind.f64.format.order a b = some .gt ∧ cp a b = 1 ∧ cp b a = -1 ∧ ((a : Int) == (b : Int)) = false) := by
  have hne : ∀ x y : Nat, ¬ x = y → ((x : Int) == (y : Int)) = false := fun x y h => by
    rw [beq_eq_false_iff_ne]; omega
  have h1 := c3_cases (rk a) (rk b)
  have h2 := c3_cases (rk b) (rk a)
  rw [← cp_rk] at h1 h2
  cases na : nanB a
  · have ra := rk_gt na
    cases nb : nanB b
    · have hbe : rk a = rk b → a = b := rk_inj ha hb na nb
      have hre : a = b → rk a = rk b := fun e => by rw [e]
      rcases h1 with ⟨e, g⟩ | ⟨e, g⟩ | ⟨e, g⟩
      · have e2 : cp b a = 1 := by rcases h2 with ⟨_, _⟩ | ⟨_, _⟩ | ⟨x, _⟩ <;> first | exact x | omega
        have n := hne a b (fun h => by have := hre h; omega)
        rcases ho : compare (Fl.key a) (Fl.key b) with _ | _ | _
        · right; right; right; left
          exact ⟨rfl, ordself_no na, ordself_no nb, by rw [ord_some na nb, ho], e, e2, n⟩
        · right; right; right; right; left
          exact ⟨rfl, ordself_no na, ordself_no nb, by rw [ord_some na nb, ho], e, e2, n⟩
        · exfalso
          have := rk_lt nb na (Int.compare_eq_gt.1 ho)
          omega
      · have e2 : cp b a = 0 := by rcases h2 with ⟨_, _⟩ | ⟨x, _⟩ | ⟨_, _⟩ <;> first | exact x | omega
        have hab := hbe g
        right; right; right; right; right; left
        refine ⟨rfl, ordself_no na, ordself_no nb, by rw [← hab]; exact ordself_no na, e, e2, by rw [hab]; simp⟩
      · have e2 : cp b a = -1 := by rcases h2 with ⟨x, _⟩ | ⟨_, _⟩ | ⟨_, _⟩ <;> first | exact x | omega
        have n := hne a b (fun h => by have := hre h; omega)
        rcases ho : compare (Fl.key a) (Fl.key b) with _ | _ | _
        · exfalso
          have := rk_lt na nb (Int.compare_eq_lt.1 ho)
          omega
        · right; right; right; right; right; right; left
          exact ⟨rfl, ordself_no na, ordself_no nb, by rw [ord_some na nb, ho], e, e2, n⟩
        · right; right; right; right; right; right; right
          exact ⟨rfl, ordself_no na, ordself_no nb, by rw [ord_some na nb, ho], e, e2, n⟩
    · have rb := rk_nan nb
      have n := hne a b (fun h => by rw [h, nb] at na; cases na)
      right; right; left
      refine ⟨rfl, ordself_no na, ordself_nan nb, Fl.ord_nan (Or.inr ((nanB_iff b).1 nb)), ?_, ?_, n⟩
      · rcases h1 with ⟨_, _⟩ | ⟨_, _⟩ | ⟨x, _⟩ <;> first | exact x | omega
      · rcases h2 with ⟨x, _⟩ | ⟨_, _⟩ | ⟨_, _⟩ <;> first | exact x | omega
  · have ra := rk_nan na
    cases nb : nanB b
    · have rb := rk_gt nb
      have n := hne a b (fun h => by rw [h, nb] at na; cases na)
      right; left
      refine ⟨rfl, ordself_nan na, ordself_no nb, Fl.ord_nan (Or.inl ((nanB_iff a).1 na)), ?_, ?_, n⟩
      · rcases h1 with ⟨x, _⟩ | ⟨_, _⟩ | ⟨_, _⟩ <;> first | exact x | omega
      · rcases h2 with ⟨_, _⟩ | ⟨_, _⟩ | ⟨x, _⟩ <;> first | exact x | omega
    · have rb := rk_nan nb
      left
      refine ⟨rfl, rfl, ordself_nan na, ordself_nan nb, Fl.ord_nan (Or.inl ((nanB_iff a).1 na)), ?_, ?_⟩
      · rcases h1 with ⟨_, _⟩ | ⟨x, _⟩ | ⟨_, _⟩ <;> first | exact x | omega
      · rcases h2 with ⟨_, _⟩ | ⟨x, _⟩ | ⟨_, _⟩ <;> first | exact x | omega
theorem cp_self (a : Nat) : cp a a = 0 := by
  have := c3_cases (rk a) (rk a)
  rw [← cp_rk] at this
  rcases this with ⟨_, _⟩ | ⟨x, _⟩ | ⟨_, _⟩ <;> first | exact x | omega
theorem cp_trans (a b c : Nat) (h1 : cp a b ≤ 0) (h2 : cp b c ≤ 0) : cp a c ≤ 0 := by
  have k1 := c3_cases (rk a) (rk b)
  have k2 := c3_cases (rk b) (rk c)
  have k3 := c3_cases (rk a) (rk c)
  rw [← cp_rk] at k1 k2 k3
  omega
theorem cp_le {a b : Nat} (h : rk a ≤ rk b) : cp a b ≤ 0 := by
  have := c3_cases (rk a) (rk b)
  rw [← cp_rk] at this
  omega
theorem cp_ge {a b : Nat} (h : rk b ≤ rk a) : 0 ≤ cp a b := by
  have := c3_cases (rk a) (rk b)
  rw [← cp_rk] at this
  omega
end Go.Proofs.YtedllapajgcfeaaDoor
