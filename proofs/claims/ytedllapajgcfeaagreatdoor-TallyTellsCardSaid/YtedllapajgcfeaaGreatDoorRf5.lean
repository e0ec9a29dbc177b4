/-
  The document's Rank, Compare of floats: walked.
-/
import Derived.Test.YtedllapajgcfeaaGreatDoorCmp
import Derived.Test.YtedllapajgcfeaaGreatDoorRk
namespace Go.Proofs.YtedllapajgcfeaaGreatDoor
set_option linter.unusedVariables false
set_option linter.unusedSimpArgs false
open Go.RowKit Go.Proofs.YtedllapajgcfeaaGreatDoorW.PrintWords

/-- A number's rank by its bits. -/
def rnk (x : Nat) : Nat := if nanB x then 0 else if Fl.sg x then 9223372036854775808 - x % 9223372036854775808 else 9223372036854775809 + x % 9223372036854775808
theorem u64_ex (x : Nat) (h : x < 18446744073709551616) : bits .and .u64 ((x : Int) / 4503599627370496) 2047 = (Fl.ex x : Int) := by
  have e : (x : Int) / 4503599627370496 = ((x / 4503599627370496 : Nat) : Int) := by omega
  rw [e]
  have := u64_and_nat (x / 4503599627370496) 2047 (by omega) (by omega)
  have e2 : ((2047 : Nat) : Int) = 2047 := rfl
  rw [e2] at this
  rw [this]
  have h3 := Nat.and_two_pow_sub_one_eq_mod (x / 4503599627370496) 11
  have e3 : 2 ^ 11 - 1 = 2047 := by decide
  rw [e3] at h3
  rw [h3]
  unfold Fl.ex
  rfl
theorem u64_fr (x : Nat) (h : x < 18446744073709551616) : bits .and .u64 (x : Int) 4503599627370495 = (Fl.fr x : Int) := by
  have := u64_and_nat x 4503599627370495 h (by omega)
  have e : ((4503599627370495 : Nat) : Int) = 4503599627370495 := rfl
  rw [e] at this
  rw [this]
  have h3 := Nat.and_two_pow_sub_one_eq_mod x 52
  have e3 : 2 ^ 52 - 1 = 4503599627370495 := by decide
  rw [e3] at h3
  rw [h3]
  unfold Fl.fr
  rfl
theorem sg_cases (x : Nat) (h : x < 18446744073709551616) : (Fl.sg x = true ∧ 9223372036854775808 ≤ x) ∨ (Fl.sg x = false ∧ x < 9223372036854775808) := by
  unfold Fl.sg
  rcases Nat.lt_or_ge x 9223372036854775808 with h1 | h1
  · right
    exact ⟨by rw [Nat.div_eq_of_lt h1]; rfl, h1⟩
  · left
    refine ⟨?_, h1⟩
    have : x / 9223372036854775808 = 1 := by omega
    rw [this]; rfl
theorem rnk_neg {x : Nat} (hn : nanB x = false) (h1 : 9223372036854775808 ≤ x) (h : x < 18446744073709551616) : ∃ m r : Nat, (x : Int) - 9223372036854775808 = (m : Int) ∧ (9223372036854775808 : Int) - (m : Int) = (r : Int) ∧ rnk x = r ∧ (x : Int) / 9223372036854775808 = 1 ∧ IntKind.u64.wrap (m : Int) = (m : Int) ∧ IntKind.u64.wrap (r : Int) = (r : Int) := by
  refine ⟨x - 9223372036854775808, 9223372036854775808 - (x - 9223372036854775808), by omega, by omega, ?_, by omega, IntWalk.u64_in _ (by omega), IntWalk.u64_in _ (by omega)⟩
  unfold rnk
  rw [hn]
  rcases sg_cases x h with ⟨e, _⟩ | ⟨_, e⟩
  · rw [e, if_neg (by decide), if_pos rfl]
    omega
  · omega
theorem rnk_pos {x : Nat} (hn : nanB x = false) (h : x < 9223372036854775808) : ∃ r : Nat, (9223372036854775809 : Int) + (x : Int) = (r : Int) ∧ rnk x = r ∧ (x : Int) / 9223372036854775808 = 0 ∧ IntKind.u64.wrap (r : Int) = (r : Int) := by
  have hle : x ≤ 9218868437227405312 := by
    have hr := Fl.rung_eq x
    have hnn : ¬ Fl.Nan x := fun h => by rw [(nanB_iff x).2 h] at hn; cases hn
    have : Fl.rung x ≤ 9218868437227405312 := by
      rcases Fl.fin_or hnn with h | ⟨h, h'⟩
      · exact Nat.le_of_lt (Fl.rung_fin h)
      · rw [Fl.rung_inf h h']; exact Nat.le_refl _
    omega
  refine ⟨9223372036854775809 + x, by omega, ?_, by omega, IntWalk.u64_in _ (by omega)⟩
  unfold rnk
  rw [hn]
  rcases sg_cases x (by omega) with ⟨_, e⟩ | ⟨e, _⟩
  · omega
  · rw [e, if_neg (by decide), if_neg (by decide)]
    omega
set_option maxHeartbeats 1600000 in
theorem rank_any (x : Nat) (h : x < 18446744073709551616) (w : World) : Calls Tryz.prog 46 #[.float .f64 x] w fun e w' => e = .returned (.int .u64 (rnk x)) ∧ w = w' := by
  have b1 := u64_ex x h
  have b2 := u64_fr x h
  have s0 : (0 : Int) ≤ (x : Int) := by omega
  cases hn : nanB x
  · have hb : (((Fl.ex x : Int) == 2047) = false) ∨ (((Fl.ex x : Int) == 2047) = true ∧ ((Fl.fr x : Int) != 0) = false) := by
      unfold nanB at hn
      by_cases e : Fl.ex x = 2047
      · right
        rw [e] at hn ⊢
        refine ⟨rfl, ?_⟩
        have : Fl.fr x = 0 := by simpa using hn
        rw [this]; rfl
      · left
        exact beq_eq_false_iff_ne.2 (by omega)
    rcases sg_cases x h with ⟨_, hs⟩ | ⟨_, hs⟩
    · obtain ⟨m, r, e1, e2, e3, e4, v1, v2⟩ := rnk_neg hn hs h
      have HR := Lib.hid e3
      generalize Fl.ex x = E at *
      generalize Fl.fr x = F at *
      clear hn hs h e3
      rcases hb with t1 | ⟨t1, t2⟩
      all_goals
        go_enter Tryz.func46, Tryz.ntmps46
        go_wp2_with fail
        go_ret
        exact ⟨by rw [HR.out]; rfl, rfl⟩
    · obtain ⟨r, e1, e3, e4, v2⟩ := rnk_pos hn hs
      have HR := Lib.hid e3
      generalize Fl.ex x = E at *
      generalize Fl.fr x = F at *
      clear hn hs h e3
      rcases hb with t1 | ⟨t1, t2⟩
      all_goals
        go_enter Tryz.func46, Tryz.ntmps46
        go_wp2_with fail
        go_ret
        exact ⟨by rw [HR.out]; rfl, rfl⟩
  · have hb : ((Fl.ex x : Int) == 2047) = true ∧ ((Fl.fr x : Int) != 0) = true := by
      unfold nanB at hn
      simp at hn
      refine ⟨by rw [hn.1]; rfl, ?_⟩
      rw [bne_iff_ne]; omega
    have HR : Hid (rnk x = 0) := Lib.hid (by unfold rnk; rw [hn]; rfl)
    generalize Fl.ex x = E at *
    generalize Fl.fr x = F at *
    obtain ⟨t1, t2⟩ := hb
    clear hn h
    go_enter Tryz.func46, Tryz.ntmps46
    go_wp2_with fail
    go_ret
    exact ⟨by rw [HR.out]; rfl, rfl⟩
/-- The ranks stand as the order's own numbers. -/
theorem rnk_lt {a b : Nat} (ha : a < 18446744073709551616) (hb : b < 18446744073709551616) : rnk a < rnk b ↔ rk a < rk b := by
  have key : ∀ x, x < 18446744073709551616 → nanB x = false → (Fl.sg x = true ∧ rnk x = 9223372036854775808 - x % 9223372036854775808 ∧ x % 9223372036854775808 ≤ 9218868437227405312 ∧ ((x % 9223372036854775808 = 0 ∧ rk x = -1) ∨ (0 < x % 9223372036854775808 ∧ rk x = -2 * ((x % 9223372036854775808 : Nat) : Int)))) ∨ (Fl.sg x = false ∧ rnk x = 9223372036854775809 + x % 9223372036854775808 ∧ ((x % 9223372036854775808 = 0 ∧ rk x = 1) ∨ (0 < x % 9223372036854775808 ∧ rk x = 2 * ((x % 9223372036854775808 : Nat) : Int)))) := by
    intro x hx hn
    have hr := Fl.rung_eq x
    have hz := zz_cases x
    rw [hn] at hz
    simp only [Bool.false_eq_true, or_false] at hz
    cases hs : Fl.sg x
    · right
      refine ⟨rfl, by unfold rnk; rw [hn, hs]; rfl, ?_⟩
      rw [rk_num hn]
      rw [Fl.key_f hs] at hz ⊢
      rw [hs] at hz
      simp at hz
      omega
    · left
      have hle : x % 9223372036854775808 ≤ 9218868437227405312 := by
        rw [← hr]
        have hnn : ¬ Fl.Nan x := fun h => by rw [(nanB_iff x).2 h] at hn; cases hn
        rcases Fl.fin_or hnn with h | ⟨h, h'⟩
        · exact Nat.le_of_lt (Fl.rung_fin h)
        · rw [Fl.rung_inf h h']; exact Nat.le_refl _
      refine ⟨rfl, by unfold rnk; rw [hn, hs]; rfl, hle, ?_⟩
      rw [rk_num hn]
      rw [Fl.key_t hs] at hz ⊢
      rw [hs] at hz
      simp at hz
      omega
  have zero : ∀ x, nanB x = true → rnk x = 0 ∧ rk x = -100000000000000000000 := fun x h => ⟨by unfold rnk; rw [h]; rfl, rk_nan h⟩
  cases na : nanB a
  · have ka := key a ha na
    cases nb : nanB b
    · have kb := key b hb nb
      generalize a % 9223372036854775808 = x at *
      generalize b % 9223372036854775808 = y at *
      generalize rnk a = p at *
      generalize rnk b = q at *
      generalize rk a = u at *
      generalize rk b = v at *
      clear key zero
      omega
    · obtain ⟨h1, h2⟩ := zero b nb
      have := rk_gt na
      rw [h1, h2]
      omega
  · obtain ⟨h1, h2⟩ := zero a na
    cases nb : nanB b
    · have kb := key b hb nb
      have := rk_gt nb
      rw [h1, h2]
      constructor
      · intro _; omega
      · intro _; omega
    · obtain ⟨h3, h4⟩ := zero b nb
      rw [h1, h2, h3, h4]
      omega
set_option maxHeartbeats 1600000 in
theorem rcmp_any (a b : Nat) (ha : a < 18446744073709551616) (hb : b < 18446744073709551616) (w : World) : Calls Tryz.prog 31 #[.float .f64 a, .float .f64 b] w fun e w' => e = .returned (.int .i64 (cp a b)) ∧ w = w' := by
  have H1 := Lib.hid (rank_any a ha)
  have H2 := Lib.hid (rank_any b hb)
  have h1 := rnk_lt ha hb
  have h2 := rnk_lt hb ha
  have HC := Lib.hid (cp_rk a b)
  have hc := c3_cases (rk a) (rk b)
  rw [cp_rk]
  generalize rnk a = p at *
  generalize rnk b = q at *
  generalize c3 (rk a) (rk b) = c at *
  generalize rk a = u at *
  generalize rk b = v at *
  clear HC
  rcases hc with ⟨rfl, h⟩ | ⟨rfl, h⟩ | ⟨rfl, h⟩
  · have t1 : decide (p < q) = true := decide_eq_true (by have := h1.2 h; omega)
    clear h1 h2 h
    go_enter Tryz.func31, Tryz.ntmps31
    go_wp2_with ((go_at_call 46; (first | (with_reducible refine (H1.out _).mono ?_) | (with_reducible refine (H2.out _).mono ?_)); rintro e w' ⟨rfl, rfl⟩))
    go_ret
    exact ⟨rfl, rfl⟩
  · have t1 : decide (p < q) = false := decide_eq_false (fun k => by have := h1.1 (by omega); omega)
    have t2 : decide (q < p) = false := decide_eq_false (fun k => by have := h2.1 (by omega); omega)
    clear h1 h2 h
    go_enter Tryz.func31, Tryz.ntmps31
    go_wp2_with ((go_at_call 46; (first | (with_reducible refine (H1.out _).mono ?_) | (with_reducible refine (H2.out _).mono ?_)); rintro e w' ⟨rfl, rfl⟩))
    go_ret
    exact ⟨rfl, rfl⟩
  · have t1 : decide (p < q) = false := decide_eq_false (fun k => by have := h1.1 (by omega); omega)
    have t2 : decide (q < p) = true := decide_eq_true (by have := h2.2 h; omega)
    clear h1 h2 h
    go_enter Tryz.func31, Tryz.ntmps31
    go_wp2_with ((go_at_call 46; (first | (with_reducible refine (H1.out _).mono ?_) | (with_reducible refine (H2.out _).mono ?_)); rintro e w' ⟨rfl, rfl⟩))
    go_ret
    exact ⟨rfl, rfl⟩
theorem cp_zero (a b : Nat) : (cp a b = 0 ↔ rk a = rk b) ∧ (0 < cp a b ↔ rk b < rk a) := by
  rw [cp_rk]
  rcases c3_cases (rk a) (rk b) with ⟨e, h⟩ | ⟨e, h⟩ | ⟨e, h⟩ <;> rw [e] <;> constructor <;> constructor <;> intro <;> omega
theorem alike_any (a b : Nat) (ha : a < 18446744073709551616) (hb : b < 18446744073709551616) (w : World) : Calls Tryz.prog 12 #[.float .f64 a, .float .f64 b] w fun e w' => e = .returned (.bool (decide (rk a = rk b))) ∧ w = w' := by
  have H := Lib.hid (rcmp_any a b ha hb)
  have hz : (cp a b == 0) = decide (rk a = rk b) := by
    have := (cp_zero a b).1
    by_cases h : rk a = rk b
    · rw [decide_eq_true h, this.2 h]; rfl
    · rw [decide_eq_false h]; exact beq_eq_false_iff_ne.2 (fun k => h (this.1 k))
  generalize cp a b = c at *
  generalize decide (rk a = rk b) = d at *
  go_enter Tryz.func12, Tryz.ntmps12
  go_wp2_with (go_at_call 31; refine (H.out _).mono ?_; rintro e w' ⟨rfl, rfl⟩)
  go_ret
  exact ⟨rfl, rfl⟩
end Go.Proofs.YtedllapajgcfeaaGreatDoor
