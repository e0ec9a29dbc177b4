/-
  internal/strconv's scaling by powers of ten, at any number: walked.
-/
import Derived.Test.YtedllapajgcfeaaGreatDoorFml
import Derived.Test.YtedllapajgcfeaaGreatDoorShf
import Derived.Test.YtedllapajgcfeaaGreatDoorCmp
import Derived.Laws.BitsAllLaws
import Derived.Deep.QuietTactic
import Derived.BigQuiet
namespace Go.Proofs.YtedllapajgcfeaaGreatDoor
set_option linter.unusedVariables false
set_option linter.unusedSimpArgs false
open Go.RowKit Go.Proofs.YtedllapajgcfeaaGreatDoorW.PrintWords

theorem mul64_any (x y : Nat) (hx : x < 18446744073709551616) (hy : y < 18446744073709551616) (w : World) : Calls Tryz.prog 130 #[.int .u64 x, .int .u64 y] w fun e w' => e = .returned (.tuple #[.int .u64 ((x * y / 18446744073709551616 : Nat) : Int), .int .u64 ((x * y % 18446744073709551616 : Nat) : Int)]) ∧ w = w' :=
  (Tryz.bits_Mul64 x y hx hy w).mono (by rintro e w' ⟨rfl, rfl⟩; exact ⟨rfl, rfl⟩)
theorem bool2u_any (b : Bool) (w : World) : Calls Tryz.prog 80 #[.bool b] w fun e w' => e = .returned (.int .u64 (b.toNat : Int)) ∧ w = w' := by
  cases b
  all_goals
    go_enter Tryz.func80, Tryz.ntmps80
    go_wp2_with fail
    go_ret
    exact ⟨rfl, rfl⟩
theorem bool2n_any (b : Bool) (w : World) : Calls Tryz.prog 131 #[.bool b] w fun e w' => e = .returned (.int .u64 (b.toNat : Int)) ∧ w = w' := by
  cases b
  all_goals
    go_enter Tryz.func131, Tryz.ntmps131
    go_wp2_with fail
    go_ret
    exact ⟨rfl, rfl⟩
theorem bool2i_any (b : Bool) (w : World) : Calls Tryz.prog 106 #[.bool b] w fun e w' => e = .returned (.int .i64 (b.toNat : Int)) ∧ w = w' := by
  cases b
  all_goals
    go_enter Tryz.func106, Tryz.ntmps106
    go_wp2_with fail
    go_ret
    exact ⟨rfl, rfl⟩

/-! ### bits -/
theorem or_one (k : Nat) (hk : k < 18446744073709551616) : bits .or .u64 (k : Int) 1 = (Sc.od k : Nat) := by
  rw [show (1 : Int) = ((1 : Nat) : Int) from rfl, u64_or_nat k 1 hk (by decide)]
  congr 1
  have h1 : k ||| 1 = 2 * (k / 2) + 1 := by
    apply Nat.eq_of_testBit_eq
    intro i
    rw [Nat.testBit_or]
    cases i with
    | zero => simp
    | succ i =>
      rw [Nat.testBit_succ, Nat.testBit_succ, Nat.testBit_succ, show (1 : Nat) / 2 = 0 from rfl, Nat.zero_testBit, Bool.or_false, show (2 * (k / 2) + 1) / 2 = k / 2 from by omega]
  unfold Sc.od
  omega
theorem or_zero (k : Nat) (hk : k < 18446744073709551616) : bits .or .u64 (k : Int) 0 = (k : Nat) := by
  rw [show (0 : Int) = ((0 : Nat) : Int) from rfl, u64_or_nat k 0 hk (by decide), Nat.or_zero]
theorem i64_and63 (s : Nat) (hs : s < 64) : bits .and .i64 (s : Int) 63 = s := by
  have : ∀ t : Fin 64, bits .and .i64 (t.val : Int) 63 = (t.val : Int) := by decide +kernel
  exact this ⟨s, hs⟩

theorem us_shift (h s : Nat) (hh : h < 18446744073709551616) : ((IntKind.u64.wrap ((h : Int) / 2 ^ s * 2 ^ s) != (h : Int)) = true) ↔ h % 2 ^ s ≠ 0 := by
  have e : ((h : Int) / 2 ^ s * 2 ^ s) = ((h / 2 ^ s * 2 ^ s : Nat) : Int) := by push_cast; rfl
  have hle : h / 2 ^ s * 2 ^ s ≤ h := Nat.div_mul_le_self _ _
  have hm := Nat.div_add_mod h (2 ^ s)
  rw [Nat.mul_comm] at hm
  rw [e]
  have hw : IntKind.u64.wrap ((h / 2 ^ s * 2 ^ s : Nat) : Int) = ((h / 2 ^ s * 2 ^ s : Nat) : Int) := by
    simp only [IntKind.wrap, IntKind.bits, IntKind.signed]
    generalize h / 2 ^ s * 2 ^ s = q at *
    simp
    omega
  rw [hw, bne_iff_ne]
  generalize h / 2 ^ s * 2 ^ s = q at *
  generalize h % 2 ^ s = r at *
  omega
set_option maxHeartbeats 1600000 in
theorem uscale_any (x g hi lo s : Nat) (w : World) (hx : x < 18446744073709551616) (h1 : hi < 18446744073709551616) (h2 : lo < 18446744073709551616) (hs : s < 64) (hp : 18446744073709551616 ≤ x * hi)
    (c0 : w.cell? ⟨g, 0, none⟩ = some (.int .u64 hi)) (c1 : w.cell? ⟨g, 1, none⟩ = some (.int .u64 lo)) (c2 : w.cell? ⟨g, 2, none⟩ = some (.int .i64 s)) :
    Calls Tryz.prog 100 #[.int .u64 x, .pointer (some ⟨g, 0, none⟩)] w fun e w' => e = .returned (.int .u64 (Sc.us x hi lo s : Nat)) ∧ ∃ n, w' = w.drewN n := by
  have b1 := i64_and63 s hs
  have hM := mul64_any x hi hx h1 w
  have hL := mul64_any x lo hx h2 w
  have hh1 : x * hi / 18446744073709551616 < 18446744073709551616 := by
    refine Nat.div_lt_of_lt_mul ?_
    exact Nat.mul_lt_mul'' hx h1
  have hh0 : 1 ≤ x * hi / 18446744073709551616 := (Nat.le_div_iff_mul_le (by decide)).2 (by omega)
  have hm1 : x * hi % 18446744073709551616 < 18446744073709551616 := Nat.mod_lt _ (by decide)
  have hm2 : x * lo / 18446744073709551616 < 18446744073709551615 := by
    refine Nat.div_lt_of_lt_mul ?_
    have : x * lo ≤ 18446744073709551615 * 18446744073709551615 := Nat.mul_le_mul (by omega) (by omega)
    omega
  obtain ⟨U, hU⟩ : ∃ U, U = Sc.us x hi lo s := ⟨_, rfl⟩
  rw [← hU]
  unfold Sc.us at hU
  dsimp only at hU
  generalize x * hi / 18446744073709551616 = h at *
  generalize x * hi % 18446744073709551616 = m at *
  generalize x * lo / 18446744073709551616 = m2 at *
  generalize x * lo % 18446744073709551616 = l2 at *
  have hd : h / 2 ^ s < 18446744073709551616 := Nat.lt_of_le_of_lt (Nat.div_le_self _ _) hh1
  have hd' : (h - 1) / 2 ^ s < 18446744073709551616 := Nat.lt_of_le_of_lt (Nat.div_le_self _ _) (by omega)
  have ed : ((h : Int) / 2 ^ s) = ((h / 2 ^ s : Nat) : Int) := by push_cast; rfl
  have ed' : (((h : Int) - 1) / 2 ^ s) = (((h - 1) / 2 ^ s : Nat) : Int) := by rw [show (h : Int) - 1 = ((h - 1 : Nat) : Int) from by omega]; push_cast; rfl
  have r1 : bits .or .u64 ((h : Int) / 2 ^ s) 1 = (Sc.od (h / 2 ^ s) : Nat) := by rw [ed, or_one _ hd]
  have r2 : bits .or .u64 (((h : Int) - 1) / 2 ^ s) 1 = (Sc.od ((h - 1) / 2 ^ s) : Nat) := by rw [ed', or_one _ hd']
  have r3 : bits .or .u64 ((h : Int) / 2 ^ s) 0 = (h / 2 ^ s : Nat) := by rw [ed, or_zero _ hd]
  have r4 : IntKind.u64.wrap ((h : Int) - 1) = (h : Int) - 1 := by
    simp only [IntKind.wrap, IntKind.bits, IntKind.signed]
    simp
    omega
  have T := us_shift h s hh1
  have HM := Lib.hid hM
  have HL := Lib.hid hL
  by_cases hc : h % 2 ^ s ≠ 0
  · have t1 := T.2 hc
    rw [if_pos hc] at hU
    clear T hc hL hM hh1 hh0 hm1 hm2 hd hd' ed ed' hx h1 h2 hp r2 r3 r4
    go_enter Tryz.func100, Tryz.ntmps100
    go_wp2_with fail
    refine (HM.out).mono ?_
    rintro e w1 ⟨rfl, rfl⟩
    go_wp2_with fail
    go_ret
    subst hU
    exact ⟨rfl, 0, rfl⟩
  · have t1 : (IntKind.u64.wrap ((h : Int) / 2 ^ s * 2 ^ s) != (h : Int)) = false := by
      cases g : (IntKind.u64.wrap ((h : Int) / 2 ^ s * 2 ^ s) != (h : Int))
      · rfl
      · exact absurd (T.1 g) hc
    rw [if_neg hc] at hU
    clear T hc
    by_cases g1 : m < m2
    · have d1 : decide (m < m2) = true := by simp [g1]
      have d2 : decide (1 < IntKind.u64.wrap ((m : Int) - (m2 : Int))) = true := by
        simp only [IntKind.wrap, IntKind.bits, IntKind.signed]
        simp
        omega
      have HB1 : Hid (Calls Tryz.prog 80 #[.bool (decide (m < m2))] w fun e w' => e = .returned (.int .u64 1) ∧ w = w') := Lib.hid (d1 ▸ bool2u_any true w)
      have HB2 : Hid (∀ z, Calls Tryz.prog 80 #[.bool (decide (1 < IntKind.u64.wrap ((m : Int) - (m2 : Int))))] z fun e w' => e = .returned (.int .u64 1) ∧ w' = z) := Lib.hid (fun z => d2 ▸ (bool2u_any true z).mono fun _ _ h => ⟨h.1, h.2.symm⟩)
      rw [if_pos g1] at hU
      clear g1 hL hM hh1 hh0 hm1 hm2 hd hd' ed ed' hx h1 h2 hp d1 d2
      go_enter Tryz.func100, Tryz.ntmps100
      go_wp2_with fail
      refine (HM.out).mono ?_
      rintro e w1 ⟨rfl, rfl⟩
      go_wp2_with fail
      refine (HL.out).mono ?_
      rintro e w1 ⟨rfl, rfl⟩
      go_wp2_with fail
      refine (HB1.out).mono ?_
      rintro e w1 ⟨rfl, rfl⟩
      go_wp2_with fail
      go_quiet ((go_at_call 80; exact Calls.quiet_of_same (HB2.out _)))
      go_wp2_with fail
      go_ret
      subst hU
      exact ⟨rfl, _, rfl⟩
    · have d1 : decide (m < m2) = false := by simp [g1]
      have r5 : IntKind.u64.wrap ((h : Int)) = (h : Int) := by
        simp only [IntKind.wrap, IntKind.bits, IntKind.signed]
        simp
        omega
      have HB1 : Hid (Calls Tryz.prog 80 #[.bool (decide (m < m2))] w fun e w' => e = .returned (.int .u64 0) ∧ w = w') := Lib.hid (d1 ▸ bool2u_any false w)
      rw [if_neg g1] at hU
      by_cases g2 : m2 + 1 < m
      · have d2 : decide (1 < IntKind.u64.wrap ((m : Int) - (m2 : Int))) = true := by
          simp only [IntKind.wrap, IntKind.bits, IntKind.signed]
          simp
          omega
        have HB2 : Hid (∀ z, Calls Tryz.prog 80 #[.bool (decide (1 < IntKind.u64.wrap ((m : Int) - (m2 : Int))))] z fun e w' => e = .returned (.int .u64 1) ∧ w' = z) := Lib.hid (fun z => d2 ▸ (bool2u_any true z).mono fun _ _ h => ⟨h.1, h.2.symm⟩)
        rw [if_pos g2] at hU
        clear g1 g2 hL hM hh1 hh0 hm1 hm2 hd hd' ed ed' hx h1 h2 hp d1 d2
        go_enter Tryz.func100, Tryz.ntmps100
        go_wp2_with fail
        refine (HM.out).mono ?_
        rintro e w1 ⟨rfl, rfl⟩
        go_wp2_with fail
        refine (HL.out).mono ?_
        rintro e w1 ⟨rfl, rfl⟩
        go_wp2_with fail
        refine (HB1.out).mono ?_
        rintro e w1 ⟨rfl, rfl⟩
        go_wp2_with fail
        go_quiet ((go_at_call 80; exact Calls.quiet_of_same (HB2.out _)))
        go_wp2_with fail
        go_ret
        subst hU
        exact ⟨rfl, _, rfl⟩
      · have d2 : decide (1 < IntKind.u64.wrap ((m : Int) - (m2 : Int))) = false := by
          simp only [IntKind.wrap, IntKind.bits, IntKind.signed]
          simp
          omega
        have HB2 : Hid (∀ z, Calls Tryz.prog 80 #[.bool (decide (1 < IntKind.u64.wrap ((m : Int) - (m2 : Int))))] z fun e w' => e = .returned (.int .u64 0) ∧ w' = z) := Lib.hid (fun z => d2 ▸ (bool2u_any false z).mono fun _ _ h => ⟨h.1, h.2.symm⟩)
        rw [if_neg g2] at hU
        clear g1 g2 hL hM hh1 hh0 hm1 hm2 hd hd' ed ed' hx h1 h2 hp d1 d2
        go_enter Tryz.func100, Tryz.ntmps100
        go_wp2_with fail
        refine (HM.out).mono ?_
        rintro e w1 ⟨rfl, rfl⟩
        go_wp2_with fail
        refine (HL.out).mono ?_
        rintro e w1 ⟨rfl, rfl⟩
        go_wp2_with fail
        refine (HB1.out).mono ?_
        rintro e w1 ⟨rfl, rfl⟩
        go_wp2_with fail
        go_quiet ((go_at_call 80; exact Calls.quiet_of_same (HB2.out _)))
        go_wp2_with fail
        go_ret
        subst hU
        exact ⟨rfl, _, rfl⟩
end Go.Proofs.YtedllapajgcfeaaGreatDoor
