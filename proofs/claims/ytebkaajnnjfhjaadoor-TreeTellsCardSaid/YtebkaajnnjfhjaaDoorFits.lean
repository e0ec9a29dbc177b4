/-
  The document's 'fits': walked.
-/
import Derived.Test.YtebkaajnnjfhjaaDoorMay
namespace Go.Proofs.YtebkaajnnjfhjaaDoor
set_option linter.unusedVariables false
set_option linter.unusedSimpArgs false
open Go.RowKit Go.Proofs.YtebkaajnnjfhjaaDoorW.PrintWords
open Tr (Nd)

set_option maxRecDepth 100000 in
set_option maxHeartbeats 6400000 in
theorem fits_any (n : Nd) (w : World) : Calls Tryd.prog 36 #[.agg #[.int .u8 n.k, .int .u64 n.s.a, .int .u64 n.s.b, .int .u64 n.s.c, .int .u64 n.s.d, .int .i64 n.a, .int .i64 n.b, .int .i64 n.mn, .int .i64 n.mx]] w fun e w' => e = .returned (.bool (Tr.may n)) ∧ Below w.heap.size w w' := by
  rw [← Tr.fits_may]
  unfold Tr.fits
  by_cases hb : n.k < 1 ∨ 5 < n.k
  · rw [if_pos hb]
    have t1 : ((n.k : Int) == 1) = false := by exact beq_f (by omega)
    have t2 : ((n.k : Int) == 2) = false := by exact beq_f (by omega)
    have t3 : ((n.k : Int) == 3) = false := by exact beq_f (by omega)
    have t4 : ((n.k : Int) == 4) = false := by exact beq_f (by omega)
    have t5 : ((n.k : Int) == 5) = false := by exact beq_f (by omega)
    clear hb
    go_enter Tryd.func36, Tryd.ntmps36
    go_wp2_with fail
    all_goals
      go_ret
      exact ⟨rfl, by (repeat (first | exact Below.refl _ _ | assumption | refine Below.drew ?_ | refine Below.alloc ?_ (by first | exact Nat.le_refl _ | (simp; done) | (simp; omega) | omega) _ | refine Below.setCell ?_ (by first | exact Nat.le_refl _ | (simp; done) | (simp; omega) | omega) _))⟩
  rw [if_neg hb]
  have hkk : n.k = 1 ∨ n.k = 2 ∨ n.k = 3 ∨ n.k = 4 ∨ n.k = 5 := by omega
  clear hb
  rcases hkk with hk | hk | hk | hk | hk
  · rw [if_neg (by omega), show Tr.plainOf n = ⟨n.k, W4.zero, 0, 0, 0, 0⟩ by unfold Tr.plainOf; simp [hk]]
    have t1 : ((n.k : Int) == 1) = true := by rw [hk]; rfl
    have t2 : ((n.k : Int) == 2) = false := by exact beq_f (by omega)
    have t3 : ((n.k : Int) == 3) = false := by exact beq_f (by omega)
    have t4 : ((n.k : Int) == 4) = false := by exact beq_f (by omega)
    have t5 : ((n.k : Int) == 5) = false := by exact beq_f (by omega)
    clear hk
    have hz : ∀ w, (binOp .eql 27 (.agg #[.int .u8 n.k, .int .u64 n.s.a, .int .u64 n.s.b, .int .u64 n.s.c, .int .u64 n.s.d, .int .i64 n.a, .int .i64 n.b, .int .i64 n.mn, .int .i64 n.mx]) (.agg #[.int .u8 n.k, .int .u64 0, .int .u64 0, .int .u64 0, .int .u64 0, .int .i64 0, .int .i64 0, .int .i64 0, .int .i64 0])).run Tryd.prog w = .ok (.bool (decide (n = ⟨n.k, W4.zero, 0, 0, 0, 0⟩))) w := fun w => eq_nd n ⟨n.k, W4.zero, 0, 0, 0, 0⟩ w
    have hg := fun op x y w => eqg_nd op x y #[.int .u8 n.k, .int .u64 n.s.a, .int .u64 n.s.b, .int .u64 n.s.c, .int .u64 n.s.d, .int .i64 n.a, .int .i64 n.b, .int .i64 n.mn, .int .i64 n.mx] #[.int .u8 n.k, .int .u64 0, .int .u64 0, .int .u64 0, .int .u64 0, .int .i64 0, .int .i64 0, .int .i64 0, .int .i64 0] w
    generalize decide (n = ⟨n.k, W4.zero, 0, 0, 0, 0⟩) = v at hz ⊢
    go_enter Tryd.func36, Tryd.ntmps36
    go_wp2_with fail
    all_goals
      go_ret
      exact ⟨rfl, by (repeat (first | exact Below.refl _ _ | assumption | refine Below.drew ?_ | refine Below.alloc ?_ (by first | exact Nat.le_refl _ | (simp; done) | (simp; omega) | omega) _ | refine Below.setCell ?_ (by first | exact Nat.le_refl _ | (simp; done) | (simp; omega) | omega) _))⟩
  · rw [if_neg (by omega), show Tr.plainOf n = ⟨n.k, n.s, 0, 0, 0, 0⟩ by unfold Tr.plainOf; simp [hk]]
    have t1 : ((n.k : Int) == 1) = false := by exact beq_f (by omega)
    have t2 : ((n.k : Int) == 2) = true := by rw [hk]; rfl
    have t3 : ((n.k : Int) == 3) = false := by exact beq_f (by omega)
    have t4 : ((n.k : Int) == 4) = false := by exact beq_f (by omega)
    have t5 : ((n.k : Int) == 5) = false := by exact beq_f (by omega)
    clear hk
    have hz : ∀ w, (binOp .eql 27 (.agg #[.int .u8 n.k, .int .u64 n.s.a, .int .u64 n.s.b, .int .u64 n.s.c, .int .u64 n.s.d, .int .i64 n.a, .int .i64 n.b, .int .i64 n.mn, .int .i64 n.mx]) (.agg #[.int .u8 n.k, .int .u64 n.s.a, .int .u64 n.s.b, .int .u64 n.s.c, .int .u64 n.s.d, .int .i64 0, .int .i64 0, .int .i64 0, .int .i64 0])).run Tryd.prog w = .ok (.bool (decide (n = ⟨n.k, n.s, 0, 0, 0, 0⟩))) w := fun w => eq_nd n ⟨n.k, n.s, 0, 0, 0, 0⟩ w
    have hg := fun op x y w => eqg_nd op x y #[.int .u8 n.k, .int .u64 n.s.a, .int .u64 n.s.b, .int .u64 n.s.c, .int .u64 n.s.d, .int .i64 n.a, .int .i64 n.b, .int .i64 n.mn, .int .i64 n.mx] #[.int .u8 n.k, .int .u64 n.s.a, .int .u64 n.s.b, .int .u64 n.s.c, .int .u64 n.s.d, .int .i64 0, .int .i64 0, .int .i64 0, .int .i64 0] w
    generalize decide (n = ⟨n.k, n.s, 0, 0, 0, 0⟩) = v at hz ⊢
    go_enter Tryd.func36, Tryd.ntmps36
    go_wp2_with fail
    all_goals
      go_ret
      exact ⟨rfl, by (repeat (first | exact Below.refl _ _ | assumption | refine Below.drew ?_ | refine Below.alloc ?_ (by first | exact Nat.le_refl _ | (simp; done) | (simp; omega) | omega) _ | refine Below.setCell ?_ (by first | exact Nat.le_refl _ | (simp; done) | (simp; omega) | omega) _))⟩
  · rw [if_neg (by omega), show Tr.plainOf n = ⟨n.k, W4.zero, n.a, n.b, 0, 0⟩ by unfold Tr.plainOf; simp [hk]]
    have t1 : ((n.k : Int) == 1) = false := by exact beq_f (by omega)
    have t2 : ((n.k : Int) == 2) = false := by exact beq_f (by omega)
    have t3 : ((n.k : Int) == 3) = true := by rw [hk]; rfl
    have t4 : ((n.k : Int) == 4) = false := by exact beq_f (by omega)
    have t5 : ((n.k : Int) == 5) = false := by exact beq_f (by omega)
    clear hk
    have hz : ∀ w, (binOp .eql 27 (.agg #[.int .u8 n.k, .int .u64 n.s.a, .int .u64 n.s.b, .int .u64 n.s.c, .int .u64 n.s.d, .int .i64 n.a, .int .i64 n.b, .int .i64 n.mn, .int .i64 n.mx]) (.agg #[.int .u8 n.k, .int .u64 0, .int .u64 0, .int .u64 0, .int .u64 0, .int .i64 n.a, .int .i64 n.b, .int .i64 0, .int .i64 0])).run Tryd.prog w = .ok (.bool (decide (n = ⟨n.k, W4.zero, n.a, n.b, 0, 0⟩))) w := fun w => eq_nd n ⟨n.k, W4.zero, n.a, n.b, 0, 0⟩ w
    have hg := fun op x y w => eqg_nd op x y #[.int .u8 n.k, .int .u64 n.s.a, .int .u64 n.s.b, .int .u64 n.s.c, .int .u64 n.s.d, .int .i64 n.a, .int .i64 n.b, .int .i64 n.mn, .int .i64 n.mx] #[.int .u8 n.k, .int .u64 0, .int .u64 0, .int .u64 0, .int .u64 0, .int .i64 n.a, .int .i64 n.b, .int .i64 0, .int .i64 0] w
    generalize decide (n = ⟨n.k, W4.zero, n.a, n.b, 0, 0⟩) = v at hz ⊢
    go_enter Tryd.func36, Tryd.ntmps36
    go_wp2_with fail
    all_goals
      go_ret
      exact ⟨rfl, by (repeat (first | exact Below.refl _ _ | assumption | refine Below.drew ?_ | refine Below.alloc ?_ (by first | exact Nat.le_refl _ | (simp; done) | (simp; omega) | omega) _ | refine Below.setCell ?_ (by first | exact Nat.le_refl _ | (simp; done) | (simp; omega) | omega) _))⟩
  · rw [if_neg (by omega), show Tr.plainOf n = ⟨n.k, W4.zero, n.a, n.b, 0, 0⟩ by unfold Tr.plainOf; simp [hk]]
    have t1 : ((n.k : Int) == 1) = false := by exact beq_f (by omega)
    have t2 : ((n.k : Int) == 2) = false := by exact beq_f (by omega)
    have t3 : ((n.k : Int) == 3) = false := by exact beq_f (by omega)
    have t4 : ((n.k : Int) == 4) = true := by rw [hk]; rfl
    have t5 : ((n.k : Int) == 5) = false := by exact beq_f (by omega)
    clear hk
    have hz : ∀ w, (binOp .eql 27 (.agg #[.int .u8 n.k, .int .u64 n.s.a, .int .u64 n.s.b, .int .u64 n.s.c, .int .u64 n.s.d, .int .i64 n.a, .int .i64 n.b, .int .i64 n.mn, .int .i64 n.mx]) (.agg #[.int .u8 n.k, .int .u64 0, .int .u64 0, .int .u64 0, .int .u64 0, .int .i64 n.a, .int .i64 n.b, .int .i64 0, .int .i64 0])).run Tryd.prog w = .ok (.bool (decide (n = ⟨n.k, W4.zero, n.a, n.b, 0, 0⟩))) w := fun w => eq_nd n ⟨n.k, W4.zero, n.a, n.b, 0, 0⟩ w
    have hg := fun op x y w => eqg_nd op x y #[.int .u8 n.k, .int .u64 n.s.a, .int .u64 n.s.b, .int .u64 n.s.c, .int .u64 n.s.d, .int .i64 n.a, .int .i64 n.b, .int .i64 n.mn, .int .i64 n.mx] #[.int .u8 n.k, .int .u64 0, .int .u64 0, .int .u64 0, .int .u64 0, .int .i64 n.a, .int .i64 n.b, .int .i64 0, .int .i64 0] w
    generalize decide (n = ⟨n.k, W4.zero, n.a, n.b, 0, 0⟩) = v at hz ⊢
    go_enter Tryd.func36, Tryd.ntmps36
    go_wp2_with fail
    all_goals
      go_ret
      exact ⟨rfl, by (repeat (first | exact Below.refl _ _ | assumption | refine Below.drew ?_ | refine Below.alloc ?_ (by first | exact Nat.le_refl _ | (simp; done) | (simp; omega) | omega) _ | refine Below.setCell ?_ (by first | exact Nat.le_refl _ | (simp; done) | (simp; omega) | omega) _))⟩
  · rw [show Tr.plainOf n = ⟨n.k, W4.zero, n.a, 0, n.mn, n.mx⟩ by unfold Tr.plainOf; simp [hk]]
    have t1 : ((n.k : Int) == 1) = false := by exact beq_f (by omega)
    have t2 : ((n.k : Int) == 2) = false := by exact beq_f (by omega)
    have t3 : ((n.k : Int) == 3) = false := by exact beq_f (by omega)
    have t4 : ((n.k : Int) == 4) = false := by exact beq_f (by omega)
    have t5 : ((n.k : Int) == 5) = true := by rw [hk]; rfl
    by_cases hx : n.mx = -1
    · have x1 : (n.mx == -1) = true := beq_t hx
      by_cases h0 : n.mn = 0
      · have y0 : (n.mn == 0) = true := beq_t h0
        rw [if_neg (by omega)]
        clear hk hx h0
        have hz : ∀ w, (binOp .eql 27 (.agg #[.int .u8 n.k, .int .u64 n.s.a, .int .u64 n.s.b, .int .u64 n.s.c, .int .u64 n.s.d, .int .i64 n.a, .int .i64 n.b, .int .i64 n.mn, .int .i64 n.mx]) (.agg #[.int .u8 n.k, .int .u64 0, .int .u64 0, .int .u64 0, .int .u64 0, .int .i64 n.a, .int .i64 0, .int .i64 n.mn, .int .i64 n.mx])).run Tryd.prog w = .ok (.bool (decide (n = ⟨n.k, W4.zero, n.a, 0, n.mn, n.mx⟩))) w := fun w => eq_nd n ⟨n.k, W4.zero, n.a, 0, n.mn, n.mx⟩ w
        have hg := fun op x y w => eqg_nd op x y #[.int .u8 n.k, .int .u64 n.s.a, .int .u64 n.s.b, .int .u64 n.s.c, .int .u64 n.s.d, .int .i64 n.a, .int .i64 n.b, .int .i64 n.mn, .int .i64 n.mx] #[.int .u8 n.k, .int .u64 0, .int .u64 0, .int .u64 0, .int .u64 0, .int .i64 n.a, .int .i64 0, .int .i64 n.mn, .int .i64 n.mx] w
        generalize decide (n = ⟨n.k, W4.zero, n.a, 0, n.mn, n.mx⟩) = v at hz ⊢
        go_enter Tryd.func36, Tryd.ntmps36
        go_wp2_with fail
        all_goals
          go_ret
          exact ⟨rfl, by (repeat (first | exact Below.refl _ _ | assumption | refine Below.drew ?_ | refine Below.alloc ?_ (by first | exact Nat.le_refl _ | (simp; done) | (simp; omega) | omega) _ | refine Below.setCell ?_ (by first | exact Nat.le_refl _ | (simp; done) | (simp; omega) | omega) _))⟩
      have y0 : (n.mn == 0) = false := beq_f h0
      by_cases h1 : n.mn = 1
      · have y1 : (n.mn == 1) = true := beq_t h1
        rw [if_neg (by omega)]
        clear hk hx h0 h1
        have hz : ∀ w, (binOp .eql 27 (.agg #[.int .u8 n.k, .int .u64 n.s.a, .int .u64 n.s.b, .int .u64 n.s.c, .int .u64 n.s.d, .int .i64 n.a, .int .i64 n.b, .int .i64 n.mn, .int .i64 n.mx]) (.agg #[.int .u8 n.k, .int .u64 0, .int .u64 0, .int .u64 0, .int .u64 0, .int .i64 n.a, .int .i64 0, .int .i64 n.mn, .int .i64 n.mx])).run Tryd.prog w = .ok (.bool (decide (n = ⟨n.k, W4.zero, n.a, 0, n.mn, n.mx⟩))) w := fun w => eq_nd n ⟨n.k, W4.zero, n.a, 0, n.mn, n.mx⟩ w
        have hg := fun op x y w => eqg_nd op x y #[.int .u8 n.k, .int .u64 n.s.a, .int .u64 n.s.b, .int .u64 n.s.c, .int .u64 n.s.d, .int .i64 n.a, .int .i64 n.b, .int .i64 n.mn, .int .i64 n.mx] #[.int .u8 n.k, .int .u64 0, .int .u64 0, .int .u64 0, .int .u64 0, .int .i64 n.a, .int .i64 0, .int .i64 n.mn, .int .i64 n.mx] w
        generalize decide (n = ⟨n.k, W4.zero, n.a, 0, n.mn, n.mx⟩) = v at hz ⊢
        go_enter Tryd.func36, Tryd.ntmps36
        go_wp2_with fail
        all_goals
          go_ret
          exact ⟨rfl, by (repeat (first | exact Below.refl _ _ | assumption | refine Below.drew ?_ | refine Below.alloc ?_ (by first | exact Nat.le_refl _ | (simp; done) | (simp; omega) | omega) _ | refine Below.setCell ?_ (by first | exact Nat.le_refl _ | (simp; done) | (simp; omega) | omega) _))⟩
      have y1 : (n.mn == 1) = false := beq_f h1
      by_cases h2 : n.mn < 0
      · have z0 : decide (n.mn < 0) = true := decide_eq_true h2
        rw [if_pos (by omega)]
        clear hk hx h0 h1 h2
        go_enter Tryd.func36, Tryd.ntmps36
        go_wp2_with fail
        all_goals
          go_ret
          exact ⟨rfl, by (repeat (first | exact Below.refl _ _ | assumption | refine Below.drew ?_ | refine Below.alloc ?_ (by first | exact Nat.le_refl _ | (simp; done) | (simp; omega) | omega) _ | refine Below.setCell ?_ (by first | exact Nat.le_refl _ | (simp; done) | (simp; omega) | omega) _))⟩
      have z0 : decide (n.mn < 0) = false := decide_eq_false h2
      have z1 : decide (n.mx < n.mn) = true := decide_eq_true (by omega)
      rw [if_pos (by omega)]
      clear hk hx h0 h1 h2
      go_enter Tryd.func36, Tryd.ntmps36
      go_wp2_with fail
      all_goals
        go_ret
        exact ⟨rfl, by (repeat (first | exact Below.refl _ _ | assumption | refine Below.drew ?_ | refine Below.alloc ?_ (by first | exact Nat.le_refl _ | (simp; done) | (simp; omega) | omega) _ | refine Below.setCell ?_ (by first | exact Nat.le_refl _ | (simp; done) | (simp; omega) | omega) _))⟩
    · have x1 : (n.mx == -1) = false := beq_f hx
      by_cases h2 : n.mn < 0
      · have z0 : decide (n.mn < 0) = true := decide_eq_true h2
        rw [if_pos (by omega)]
        clear hk hx h2
        go_enter Tryd.func36, Tryd.ntmps36
        go_wp2_with fail
        all_goals
          go_ret
          exact ⟨rfl, by (repeat (first | exact Below.refl _ _ | assumption | refine Below.drew ?_ | refine Below.alloc ?_ (by first | exact Nat.le_refl _ | (simp; done) | (simp; omega) | omega) _ | refine Below.setCell ?_ (by first | exact Nat.le_refl _ | (simp; done) | (simp; omega) | omega) _))⟩
      have z0 : decide (n.mn < 0) = false := decide_eq_false h2
      by_cases h3 : n.mx < n.mn
      · have z1 : decide (n.mx < n.mn) = true := decide_eq_true h3
        rw [if_pos (by omega)]
        clear hk hx h2 h3
        go_enter Tryd.func36, Tryd.ntmps36
        go_wp2_with fail
        all_goals
          go_ret
          exact ⟨rfl, by (repeat (first | exact Below.refl _ _ | assumption | refine Below.drew ?_ | refine Below.alloc ?_ (by first | exact Nat.le_refl _ | (simp; done) | (simp; omega) | omega) _ | refine Below.setCell ?_ (by first | exact Nat.le_refl _ | (simp; done) | (simp; omega) | omega) _))⟩
      have z1 : decide (n.mx < n.mn) = false := decide_eq_false h3
      by_cases h4 : 9 < n.mx
      · have z2 : decide (9 < n.mx) = true := decide_eq_true h4
        rw [if_pos (by omega)]
        clear hk hx h2 h3 h4
        go_enter Tryd.func36, Tryd.ntmps36
        go_wp2_with fail
        all_goals
          go_ret
          exact ⟨rfl, by (repeat (first | exact Below.refl _ _ | assumption | refine Below.drew ?_ | refine Below.alloc ?_ (by first | exact Nat.le_refl _ | (simp; done) | (simp; omega) | omega) _ | refine Below.setCell ?_ (by first | exact Nat.le_refl _ | (simp; done) | (simp; omega) | omega) _))⟩
      have z2 : decide (9 < n.mx) = false := decide_eq_false h4
      rw [if_neg (by omega)]
      clear hk hx h2 h3 h4
      have hz : ∀ w, (binOp .eql 27 (.agg #[.int .u8 n.k, .int .u64 n.s.a, .int .u64 n.s.b, .int .u64 n.s.c, .int .u64 n.s.d, .int .i64 n.a, .int .i64 n.b, .int .i64 n.mn, .int .i64 n.mx]) (.agg #[.int .u8 n.k, .int .u64 0, .int .u64 0, .int .u64 0, .int .u64 0, .int .i64 n.a, .int .i64 0, .int .i64 n.mn, .int .i64 n.mx])).run Tryd.prog w = .ok (.bool (decide (n = ⟨n.k, W4.zero, n.a, 0, n.mn, n.mx⟩))) w := fun w => eq_nd n ⟨n.k, W4.zero, n.a, 0, n.mn, n.mx⟩ w
      have hg := fun op x y w => eqg_nd op x y #[.int .u8 n.k, .int .u64 n.s.a, .int .u64 n.s.b, .int .u64 n.s.c, .int .u64 n.s.d, .int .i64 n.a, .int .i64 n.b, .int .i64 n.mn, .int .i64 n.mx] #[.int .u8 n.k, .int .u64 0, .int .u64 0, .int .u64 0, .int .u64 0, .int .i64 n.a, .int .i64 0, .int .i64 n.mn, .int .i64 n.mx] w
      generalize decide (n = ⟨n.k, W4.zero, n.a, 0, n.mn, n.mx⟩) = v at hz ⊢
      go_enter Tryd.func36, Tryd.ntmps36
      go_wp2_with fail
      all_goals
        go_ret
        exact ⟨rfl, by (repeat (first | exact Below.refl _ _ | assumption | refine Below.drew ?_ | refine Below.alloc ?_ (by first | exact Nat.le_refl _ | (simp; done) | (simp; omega) | omega) _ | refine Below.setCell ?_ (by first | exact Nat.le_refl _ | (simp; done) | (simp; omega) | omega) _))⟩
end Go.Proofs.YtebkaajnnjfhjaaDoor
