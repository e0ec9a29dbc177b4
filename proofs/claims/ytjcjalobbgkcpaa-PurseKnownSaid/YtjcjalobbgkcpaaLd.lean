/-
  Bits of floats, Ldexp of 1, and what is enough (Bound), the program's and the document's.
-/
import Derived.Test.YtjcjalobbgkcpaaPur
namespace Go.Proofs.Ytjcjalobbgkcpaa
open Go.RowKit Go.Proofs.YtjcjalobbgkcpaaW.PrintWords

theorem run_bits (b : Nat) (w : World) : (callFunc 36 #[.float .f64 b]).run Try.prog w = .ok (.value (.int .u64 b)) w := by
  rw [run_callFunc_extern Try.func36 (by kernel_rfl) (by kernel_rfl) (by kernel_rfl) (e := Extern.MathFloatBits.float64bits) (by kernel_rfl)]
  rfl
theorem run_frombits (n : Int) (w : World) : (callFunc 35 #[.int .u64 n]).run Try.prog w = .ok (.value (.float .f64 n.toNat)) w := by
  rw [run_callFunc_extern Try.func35 (by kernel_rfl) (by kernel_rfl) (by kernel_rfl) (e := Extern.MathFloatBits.float64frombits) (by kernel_rfl)]
  rfl
attribute [go_sem] run_bits run_frombits

theorem abs_of (x y : Nat) (h1 : bits .andNot .u64 (x : Int) 9223372036854775808 = (y : Int)) (w : World) : Calls Try.prog 40 #[.float .f64 x] w fun e w' => e = .returned (.float .f64 y) ∧ w = w' := by
  go_enter Try.func40, Try.ntmps40
  go_wp2
  go_ret
  exact ⟨rfl, rfl⟩
theorem isInf_of (x y : Nat) (h1 : bits .andNot .u64 (x : Int) 9223372036854775808 = (y : Int)) (h2 : FloatKind.f64.format.order y 9218868437227405311 = some .lt) (w : World) : Calls Try.prog 26 #[.float .f64 x, .int .i64 0] w fun e w' => e = .returned (.bool false) ∧ w = w' := by
  have H := fun w => abs_of x y h1 w
  clear h1
  go_enter Try.func26, Try.ntmps26
  go_wp2_with (go_at_call 40; refine (H _).mono ?_; rintro e w' ⟨rfl, rfl⟩)
  go_ret
  exact ⟨rfl, rfl⟩
theorem isNaN_of (x : Nat) (h : FloatKind.f64.format.order x x = some .eq) (w : World) : Calls Try.prog 28 #[.float .f64 x] w fun e w' => e = .returned (.bool false) ∧ w = w' := by
  go_enter Try.func28, Try.ntmps28
  go_wp2
  go_ret
  exact ⟨rfl, rfl⟩
theorem norm_one (w : World) : Calls Try.prog 45 #[.float .f64 4607182418800017408] w fun e w' => e = .returned (.tuple #[.float .f64 4607182418800017408, .int .i64 0]) ∧ w = w' := by
  have h1 : FloatKind.f64.format.order 4607182418800017408 4503599627370496 = some .gt := by decide +kernel
  go_enter Try.func45, Try.ntmps45
  go_wp2_with (go_at_call 40; refine (abs_of 4607182418800017408 4607182418800017408 (by decide +kernel) _).mono ?_; rintro e w' ⟨rfl, rfl⟩)
  go_ret2
  exact ⟨rfl, rfl⟩

/-- The word of 2 to the power of e. -/
def p2 (e : Nat) : Nat := (e + 1023) * 4503599627370496
theorem mul_one : ∀ e : Fin 901, Ieee.double.mul 4607182418800017408 (p2 e.val) = some (p2 e.val) := by decide +kernel
set_option maxRecDepth 100000 in
set_option maxHeartbeats 1600000 in
theorem ldexp_one (e : Nat) (he : e ≤ 900) (w : World) : Calls Try.prog 39 #[.float .f64 4607182418800017408, .int .i64 e] w fun r w' => r = .returned (.float .f64 (p2 e)) ∧ w = w' := by
  have h1 : FloatKind.f64.format.order 4607182418800017408 0 = some .gt := by decide +kernel
  have h2 : bits .and .i64 1023 2047 = 1023 := by decide +kernel
  have h3 : bits .andNot .u64 4607182418800017408 9218868437227405312 = 0 := by decide +kernel
  have h4 : IntKind.i64.wrap ((e : Int) + 1023) = (e : Int) + 1023 := IntWalk.i64_in _ (by omega)
  have h5 : IntKind.u64.wrap ((e : Int) + 1023) = (e : Int) + 1023 := IntWalk.u64_in _ (by omega)
  have h6 : IntKind.u64.wrap (((e : Int) + 1023) * 4503599627370496) = (p2 e : Int) := by
    unfold p2
    rw [IntWalk.u64_in _ (by omega)]
    omega
  have h7 : bits .or .u64 0 (p2 e : Int) = (p2 e : Int) := by
    have := u64_or_nat 0 (p2 e) (by omega) (by unfold p2; omega)
    rw [Nat.zero_or] at this
    exact this
  have h8 := fun w => run_float_arith (P := Try.prog) w .mul 24 .f64 4607182418800017408 (p2 e) _ (mul_one ⟨e, by omega⟩)
  go_enter Try.func39, Try.ntmps39
  go_wp2_with (first
    | (go_at_call 26; refine (isInf_of 4607182418800017408 4607182418800017408 (by decide +kernel) (by decide +kernel) _).mono ?_; rintro e w' ⟨rfl, rfl⟩)
    | (go_at_call 28; refine (isNaN_of 4607182418800017408 (by decide +kernel) _).mono ?_; rintro e w' ⟨rfl, rfl⟩)
    | (go_at_call 45; refine (norm_one _).mono ?_; rintro e w' ⟨rfl, rfl⟩))
  go_ret
  exact ⟨rfl, rfl⟩
theorem ldexp_any (e : Nat) (he : e ≤ 900) (w : World) : Calls Try.prog 19 #[.float .f64 4607182418800017408, .int .i64 e] w fun r w' => r = .returned (.float .f64 (p2 e)) ∧ w = w' := by
  go_enter Try.func19, Try.ntmps19
  go_wp2_with (go_at_call 39; refine (ldexp_one e he _).mono ?_; rintro e w' ⟨rfl, rfl⟩)
  go_ret
  exact ⟨rfl, rfl⟩
/-- How much is enough for so many bytes: the exponent of two. -/
def bE (n : Int) : Nat := 100 + 27 * (min n 7).toNat
theorem bE_le (n : Int) : 100 ≤ bE n ∧ bE n ≤ 289 := by unfold bE; omega
set_option maxHeartbeats 1600000 in
theorem bound_any (n : Int) (hn : -9223372036854775808 ≤ n ∧ n ≤ 9223372036854775807) (w : World) : Calls Try.prog 21 #[.int .i64 n] w fun e w' => e = .returned (.float .f64 (p2 (bE n))) ∧ w = w' := by
  have hL := fun w => ldexp_any (bE n) (by have := bE_le n; omega) w
  by_cases h0 : n < 0
  · have e1 : bE n = 100 := by unfold bE; omega
    rw [e1] at hL ⊢
    go_enter Try.func21, Try.ntmps21
    go_wp2_with fail
    refine (hL _).mono ?_
    rintro e w' ⟨rfl, rfl⟩
    go_wp2_with fail
    go_ret
    exact ⟨rfl, rfl⟩
  · by_cases h1 : n < 7
    · have e1 : (bE n : Int) = 100 + 27 * n := by unfold bE; omega
      have w1 : IntKind.i64.wrap (9 * n) = 9 * n := IntWalk.i64_in _ (by omega)
      have w2 : IntKind.i64.wrap (3 * (9 * n)) = 27 * n := by rw [IntWalk.i64_in _ (by omega)]; omega
      have w3 : IntKind.i64.wrap (100 + 27 * n) = (bE n : Int) := by rw [IntWalk.i64_in _ (by omega)]; omega
      clear e1
      go_enter Try.func21, Try.ntmps21
      go_wp2_with fail
      refine (hL _).mono ?_
      rintro e w' ⟨rfl, rfl⟩
      go_wp2_with fail
      go_ret
      exact ⟨rfl, rfl⟩
    · have e1 : bE n = 289 := by unfold bE; omega
      rw [e1] at hL ⊢
      by_cases h2 : n ≤ 63
      · have w1 : IntKind.i64.wrap (9 * n) = 9 * n := IntWalk.i64_in _ (by omega)
        go_enter Try.func21, Try.ntmps21
        go_wp2_with fail
        refine (hL _).mono ?_
        rintro e w' ⟨rfl, rfl⟩
        go_wp2_with fail
        go_ret
        exact ⟨rfl, rfl⟩
      · go_enter Try.func21, Try.ntmps21
        go_wp2_with fail
        refine (hL _).mono ?_
        rintro e w' ⟨rfl, rfl⟩
        go_wp2_with fail
        go_ret
        exact ⟨rfl, rfl⟩

theorem mul_two : ∀ e : Fin 400, Ieee.double.mul (p2 e.val) 4611686018427387904 = some (p2 (e.val + 1)) := by decide +kernel
theorem run_two (e : Nat) (he : e < 400) (w : World) : (binOp .mul 24 (.float .f64 (p2 e)) (.float .f64 4611686018427387904)).run Try.prog w = .ok (.float .f64 (p2 (e + 1))) w :=
  run_float_arith (P := Try.prog) w .mul 24 .f64 _ _ _ (mul_two ⟨e, he⟩)
theorem p2_zero : p2 0 = 4607182418800017408 := rfl
set_option maxRecDepth 100000 in
set_option maxHeartbeats 1600000 in
theorem rbound_any (n : Int) (hn : -9223372036854775808 ≤ n ∧ n ≤ 9223372036854775807) (w : World) : Calls Try.prog 25 #[.int .i64 n] w fun e w' => e = .returned (.float .f64 (p2 (bE n))) ∧ w = w' := by
  go_enter Try.func25, Try.ntmps25
  go_wp2
  go_loop [3, 4] (fun b i => ∃ k : Nat, k ≤ 100 ∧ b = .float .f64 (p2 k) ∧ i = .int .i64 k) (fun _ i => 100 - (intOf i).toNat)
  case atStart => exact ⟨0, by omega, by rw [p2_zero], rfl⟩
  case round =>
    obtain ⟨k, hk, rfl, rfl⟩ := hrel
    by_cases hlt : k < 100
    · have hm := fun w => run_two k (by omega) w
      go_wp2
      go_round
      case rel => exact ⟨k + 1, by omega, rfl, by go_num⟩
      case measure => simp [intOf]; omega
    · have e100 : k = 100 := by omega
      subst e100
      go_wp2
      go_loop [3, 5, 6] (fun b i _ => ∃ k : Nat, k ≤ 7 ∧ (k = 0 ∨ (k : Int) ≤ n) ∧ b = .float .f64 (p2 (100 + 27 * k)) ∧ i = .int .i64 k) (fun _ i _ => 7 - (intOf i).toNat)
      case atStart => exact ⟨0, by omega, Or.inl rfl, rfl, rfl⟩
      case round =>
        obtain ⟨k, hk, hkn, rfl, rfl⟩ := hrel
        by_cases hl : k < 7 ∧ (k : Int) < n
        · obtain ⟨hl1, hl2⟩ := hl
          go_wp2
          go_loop [3, 6] (fun b i => ∃ j : Nat, j ≤ 27 ∧ b = .float .f64 (p2 (100 + 27 * k + j)) ∧ i = .int .i64 j) (fun _ i => 27 - (intOf i).toNat)
          case atStart => exact ⟨0, by omega, rfl, rfl⟩
          case round =>
            obtain ⟨j, hj, rfl, rfl⟩ := hrel
            by_cases hjl : j < 27
            · have hm := fun w => run_two (100 + 27 * k + j) (by omega) w
              go_wp2
              go_round
              case rel => exact ⟨j + 1, by omega, rfl, by go_num⟩
              case measure => simp [intOf]; omega
            · have e27 : j = 27 := by omega
              subst e27
              go_wp2
              go_round
              case rel => exact ⟨k + 1, by omega, Or.inr (by omega), rfl, by go_num⟩
              case measure => simp [intOf]; omega
        · have e1 : 100 + 27 * k = bE n := by unfold bE; omega
          by_cases h7 : k < 7
          · have h8 : ¬ (k : Int) < n := by omega
            go_wp2
            go_ret
            exact ⟨rfl, rfl⟩
          · go_wp2
            go_ret
            exact ⟨rfl, rfl⟩
end Go.Proofs.Ytjcjalobbgkcpaa
