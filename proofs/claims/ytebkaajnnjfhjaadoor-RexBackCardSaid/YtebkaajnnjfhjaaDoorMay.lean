/-
  tree.bare, may: walked.
-/
import Derived.Test.YtebkaajnnjfhjaaDoorNd
import Derived.Test.YtebkaajnnjfhjaaDoorNq
namespace Go.Proofs.YtebkaajnnjfhjaaDoor
set_option linter.unusedVariables false
set_option linter.unusedSimpArgs false
open Go.RowKit Go.Proofs.YtebkaajnnjfhjaaDoorW.PrintWords
open Tr (Nd)

def bareN (n : Nd) : Nd := if n.k = 2 then ⟨0, W4.zero, n.a, n.b, n.mn, n.mx⟩ else if n.k = 3 ∨ n.k = 4 then ⟨0, n.s, 0, 0, n.mn, n.mx⟩ else if n.k = 5 then ⟨0, n.s, 0, n.b, 0, 0⟩ else ⟨0, n.s, n.a, n.b, n.mn, n.mx⟩
theorem bareN_zero (n : Nd) : decide (bareN n = ⟨0, W4.zero, 0, 0, 0, 0⟩) = Tr.bareB n := by
  obtain ⟨k, s, a, b, mn, mx⟩ := n
  rw [Bool.eq_iff_iff, decide_eq_true_iff]
  unfold bareN Tr.bareB
  by_cases h2 : k = 2
  · subst h2; simp; omega
  by_cases h3 : k = 3
  · subst h3; simp
  by_cases h4 : k = 4
  · subst h4; simp
  by_cases h5 : k = 5
  · subst h5; simp
  simp [h2, h3, h4, h5]
  constructor
  · rintro ⟨h1, h2, h3, h4, h5⟩; exact ⟨⟨⟨h1, h2⟩, h3⟩, h4, h5⟩
  · rintro ⟨⟨⟨h1, h2⟩, h3⟩, h4, h5⟩; exact ⟨h1, h2, h3, h4, h5⟩
set_option maxHeartbeats 800000 in
theorem bare_any (n : Nd) (w : World) : Calls Tryd.prog 52 #[.agg #[.int .u8 n.k, .int .u64 n.s.a, .int .u64 n.s.b, .int .u64 n.s.c, .int .u64 n.s.d, .int .i64 n.a, .int .i64 n.b, .int .i64 n.mn, .int .i64 n.mx]] w fun e w' => e = .returned (.agg #[.int .u8 (bareN n).k, .int .u64 (bareN n).s.a, .int .u64 (bareN n).s.b, .int .u64 (bareN n).s.c, .int .u64 (bareN n).s.d, .int .i64 (bareN n).a, .int .i64 (bareN n).b, .int .i64 (bareN n).mn, .int .i64 (bareN n).mx]) ∧ Below w.heap.size w w' := by
  by_cases h2 : n.k = 2
  · have e : bareN n = ⟨0, W4.zero, n.a, n.b, n.mn, n.mx⟩ := by unfold bareN; rw [if_pos h2]
    rw [e]
    simp only [h2]
    clear h2 e
    go_enter Tryd.func52, Tryd.ntmps52
    go_wp2_with fail
    exact bodyPost_ret (v := .agg #[.int .u8 (⟨0, W4.zero, n.a, n.b, n.mn, n.mx⟩ : Nd).k, .int .u64 (⟨0, W4.zero, n.a, n.b, n.mn, n.mx⟩ : Nd).s.a, .int .u64 (⟨0, W4.zero, n.a, n.b, n.mn, n.mx⟩ : Nd).s.b, .int .u64 (⟨0, W4.zero, n.a, n.b, n.mn, n.mx⟩ : Nd).s.c, .int .u64 (⟨0, W4.zero, n.a, n.b, n.mn, n.mx⟩ : Nd).s.d, .int .i64 (⟨0, W4.zero, n.a, n.b, n.mn, n.mx⟩ : Nd).a, .int .i64 (⟨0, W4.zero, n.a, n.b, n.mn, n.mx⟩ : Nd).b, .int .i64 (⟨0, W4.zero, n.a, n.b, n.mn, n.mx⟩ : Nd).mn, .int .i64 (⟨0, W4.zero, n.a, n.b, n.mn, n.mx⟩ : Nd).mx]) (by simp [results, Tryd.results52, go_sem, W4.zero]) rfl ⟨rfl, by (repeat (first | exact Below.refl _ _ | assumption | refine Below.drew ?_ | refine Below.alloc ?_ (by first | exact Nat.le_refl _ | (simp; done) | (simp; omega) | omega) _ | refine Below.setCell ?_ (by first | exact Nat.le_refl _ | (simp; done) | (simp; omega) | omega) _))⟩
  by_cases h34 : n.k = 3 ∨ n.k = 4
  · have e : bareN n = ⟨0, n.s, 0, 0, n.mn, n.mx⟩ := by unfold bareN; rw [if_neg h2, if_pos h34]
    rw [e]
    clear h2 e
    rcases h34 with h | h
    all_goals
      simp only [h]
      clear h
      go_enter Tryd.func52, Tryd.ntmps52
      go_wp2_with fail
      exact bodyPost_ret (v := .agg #[.int .u8 (⟨0, n.s, 0, 0, n.mn, n.mx⟩ : Nd).k, .int .u64 (⟨0, n.s, 0, 0, n.mn, n.mx⟩ : Nd).s.a, .int .u64 (⟨0, n.s, 0, 0, n.mn, n.mx⟩ : Nd).s.b, .int .u64 (⟨0, n.s, 0, 0, n.mn, n.mx⟩ : Nd).s.c, .int .u64 (⟨0, n.s, 0, 0, n.mn, n.mx⟩ : Nd).s.d, .int .i64 (⟨0, n.s, 0, 0, n.mn, n.mx⟩ : Nd).a, .int .i64 (⟨0, n.s, 0, 0, n.mn, n.mx⟩ : Nd).b, .int .i64 (⟨0, n.s, 0, 0, n.mn, n.mx⟩ : Nd).mn, .int .i64 (⟨0, n.s, 0, 0, n.mn, n.mx⟩ : Nd).mx]) (by simp [results, Tryd.results52, go_sem]) rfl ⟨rfl, by (repeat (first | exact Below.refl _ _ | assumption | refine Below.drew ?_ | refine Below.alloc ?_ (by first | exact Nat.le_refl _ | (simp; done) | (simp; omega) | omega) _ | refine Below.setCell ?_ (by first | exact Nat.le_refl _ | (simp; done) | (simp; omega) | omega) _))⟩
  by_cases h5 : n.k = 5
  · have e : bareN n = ⟨0, n.s, 0, n.b, 0, 0⟩ := by unfold bareN; rw [if_neg h2, if_neg h34, if_pos h5]
    rw [e]
    simp only [h5]
    clear h2 h34 h5 e
    go_enter Tryd.func52, Tryd.ntmps52
    go_wp2_with fail
    exact bodyPost_ret (v := .agg #[.int .u8 (⟨0, n.s, 0, n.b, 0, 0⟩ : Nd).k, .int .u64 (⟨0, n.s, 0, n.b, 0, 0⟩ : Nd).s.a, .int .u64 (⟨0, n.s, 0, n.b, 0, 0⟩ : Nd).s.b, .int .u64 (⟨0, n.s, 0, n.b, 0, 0⟩ : Nd).s.c, .int .u64 (⟨0, n.s, 0, n.b, 0, 0⟩ : Nd).s.d, .int .i64 (⟨0, n.s, 0, n.b, 0, 0⟩ : Nd).a, .int .i64 (⟨0, n.s, 0, n.b, 0, 0⟩ : Nd).b, .int .i64 (⟨0, n.s, 0, n.b, 0, 0⟩ : Nd).mn, .int .i64 (⟨0, n.s, 0, n.b, 0, 0⟩ : Nd).mx]) (by simp [results, Tryd.results52, go_sem]) rfl ⟨rfl, by (repeat (first | exact Below.refl _ _ | assumption | refine Below.drew ?_ | refine Below.alloc ?_ (by first | exact Nat.le_refl _ | (simp; done) | (simp; omega) | omega) _ | refine Below.setCell ?_ (by first | exact Nat.le_refl _ | (simp; done) | (simp; omega) | omega) _))⟩
  · have e : bareN n = ⟨0, n.s, n.a, n.b, n.mn, n.mx⟩ := by unfold bareN; rw [if_neg h2, if_neg h34, if_neg h5]
    rw [e]
    have i2 : ((n.k : Int) == 2) = false := beq_f (by omega)
    have i3 : ((n.k : Int) == 3) = false := beq_f (by omega)
    have i4 : ((n.k : Int) == 4) = false := beq_f (by omega)
    have i5 : ((n.k : Int) == 5) = false := beq_f (by omega)
    clear h2 h34 h5 e
    go_enter Tryd.func52, Tryd.ntmps52
    go_wp2_with fail
    exact bodyPost_ret (v := .agg #[.int .u8 (⟨0, n.s, n.a, n.b, n.mn, n.mx⟩ : Nd).k, .int .u64 (⟨0, n.s, n.a, n.b, n.mn, n.mx⟩ : Nd).s.a, .int .u64 (⟨0, n.s, n.a, n.b, n.mn, n.mx⟩ : Nd).s.b, .int .u64 (⟨0, n.s, n.a, n.b, n.mn, n.mx⟩ : Nd).s.c, .int .u64 (⟨0, n.s, n.a, n.b, n.mn, n.mx⟩ : Nd).s.d, .int .i64 (⟨0, n.s, n.a, n.b, n.mn, n.mx⟩ : Nd).a, .int .i64 (⟨0, n.s, n.a, n.b, n.mn, n.mx⟩ : Nd).b, .int .i64 (⟨0, n.s, n.a, n.b, n.mn, n.mx⟩ : Nd).mn, .int .i64 (⟨0, n.s, n.a, n.b, n.mn, n.mx⟩ : Nd).mx]) (by simp [results, Tryd.results52, go_sem]) rfl ⟨rfl, by (repeat (first | exact Below.refl _ _ | assumption | refine Below.drew ?_ | refine Below.alloc ?_ (by first | exact Nat.le_refl _ | (simp; done) | (simp; omega) | omega) _ | refine Below.setCell ?_ (by first | exact Nat.le_refl _ | (simp; done) | (simp; omega) | omega) _))⟩
theorem bcell_of {w w1 : World} {o : Obj} (B1 : Below (w.alloc o).heap.size (w.alloc o) w1) : ∀ i, w1.cell? ⟨w.heap.size, i, none⟩ = (w.alloc o).cell? ⟨w.heap.size, i, none⟩ :=
  fun i => B1.cell (p := ⟨w.heap.size, i, none⟩) (by simp)
theorem zero_nd : (.agg #[.int .u8 (⟨0, W4.zero, 0, 0, 0, 0⟩ : Nd).k, .int .u64 (⟨0, W4.zero, 0, 0, 0, 0⟩ : Nd).s.a, .int .u64 (⟨0, W4.zero, 0, 0, 0, 0⟩ : Nd).s.b, .int .u64 (⟨0, W4.zero, 0, 0, 0, 0⟩ : Nd).s.c, .int .u64 (⟨0, W4.zero, 0, 0, 0, 0⟩ : Nd).s.d, .int .i64 (⟨0, W4.zero, 0, 0, 0, 0⟩ : Nd).a, .int .i64 (⟨0, W4.zero, 0, 0, 0, 0⟩ : Nd).b, .int .i64 (⟨0, W4.zero, 0, 0, 0, 0⟩ : Nd).mn, .int .i64 (⟨0, W4.zero, 0, 0, 0, 0⟩ : Nd).mx]) = Value.agg #[.int .u8 0, .int .u64 0, .int .u64 0, .int .u64 0, .int .u64 0, .int .i64 0, .int .i64 0, .int .i64 0, .int .i64 0] := rfl
set_option maxRecDepth 100000 in
set_option maxHeartbeats 3200000 in
theorem may_any (n : Nd) (w : World) : Calls Tryd.prog 33 #[.agg #[.int .u8 n.k, .int .u64 n.s.a, .int .u64 n.s.b, .int .u64 n.s.c, .int .u64 n.s.d, .int .i64 n.a, .int .i64 n.b, .int .i64 n.mn, .int .i64 n.mx]] w fun e w' => e = .returned (.bool (Tr.may n)) ∧ Below w.heap.size w w' := by
  by_cases hk : 1 ≤ n.k ∧ n.k ≤ 5
  · have hz : ∀ w, (binOp .neq 27 (.agg #[.int .u8 (bareN n).k, .int .u64 (bareN n).s.a, .int .u64 (bareN n).s.b, .int .u64 (bareN n).s.c, .int .u64 (bareN n).s.d, .int .i64 (bareN n).a, .int .i64 (bareN n).b, .int .i64 (bareN n).mn, .int .i64 (bareN n).mx]) (.agg #[.int .u8 0, .int .u64 0, .int .u64 0, .int .u64 0, .int .u64 0, .int .i64 0, .int .i64 0, .int .i64 0, .int .i64 0])).run Tryd.prog w = .ok (.bool (!Tr.bareB n)) w := by
      intro w
      have := neq_nd (bareN n) ⟨0, W4.zero, 0, 0, 0, 0⟩ w
      rw [bareN_zero] at this
      exact this
    have hg := fun op x y w => eqg_nd op x y #[.int .u8 (bareN n).k, .int .u64 (bareN n).s.a, .int .u64 (bareN n).s.b, .int .u64 (bareN n).s.c, .int .u64 (bareN n).s.d, .int .i64 (bareN n).a, .int .i64 (bareN n).b, .int .i64 (bareN n).mn, .int .i64 (bareN n).mx] #[.int .u8 0, .int .u64 0, .int .u64 0, .int .u64 0, .int .u64 0, .int .i64 0, .int .i64 0, .int .i64 0, .int .i64 0] w
    have HB := Lib.hid (bare_any n)
    have hm : Hid (Tr.may n = (Tr.bareB n && (if n.mx = -1 then decide (n.mn = 0 ∨ n.mn = 1) else decide (0 ≤ n.mn ∧ n.mn ≤ n.mx ∧ n.mx ≤ 9)))) := Lib.hid (by unfold Tr.may; rw [decide_eq_true hk, Bool.true_and])
    rw [hm.out]
    clear hm
    have k1 : (1 : Int) ≤ n.k := by omega
    have k2 : (n.k : Int) ≤ 5 := by omega
    clear hk
    generalize hbn : bareN n = m at hz hg HB
    generalize Tr.bareB n = b at hz ⊢
    clear hbn
    cases b
    · go_enter Tryd.func33, Tryd.ntmps33
      go_wp2_with fail
      refine (HB.out _).mono ?_
      rintro e w1 ⟨rfl, B1⟩
      have C1 := bcell_of B1
      go_wp2_with fail
      all_goals
        go_ret
        exact ⟨rfl, bthen ((Below.refl _ _).alloc (Nat.le_refl _) _) B1⟩
    · rw [Bool.true_and]
      by_cases hx : n.mx = -1
      · rw [if_pos hx]
        have x1 := beq_t hx
        clear hx
        by_cases h0 : n.mn = 0
        · rw [decide_eq_true (.inl h0)]
          have x2 := beq_t h0
          clear h0
          go_enter Tryd.func33, Tryd.ntmps33
          go_wp2_with fail
          refine (HB.out _).mono ?_
          rintro e w1 ⟨rfl, B1⟩
          have C1 := bcell_of B1
          go_wp2_with fail
          all_goals
            go_ret
            exact ⟨rfl, bthen ((Below.refl _ _).alloc (Nat.le_refl _) _) B1⟩
        · have x2 := beq_f h0
          by_cases h1 : n.mn = 1
          · rw [decide_eq_true (.inr h1)]
            have x3 := beq_t h1
            clear h0 h1
            go_enter Tryd.func33, Tryd.ntmps33
            go_wp2_with fail
            refine (HB.out _).mono ?_
            rintro e w1 ⟨rfl, B1⟩
            have C1 := bcell_of B1
            go_wp2_with fail
            all_goals
              go_ret
              exact ⟨rfl, bthen ((Below.refl _ _).alloc (Nat.le_refl _) _) B1⟩
          · rw [decide_eq_false (by omega)]
            have x3 := beq_f h1
            clear h0 h1
            go_enter Tryd.func33, Tryd.ntmps33
            go_wp2_with fail
            refine (HB.out _).mono ?_
            rintro e w1 ⟨rfl, B1⟩
            have C1 := bcell_of B1
            go_wp2_with fail
            all_goals
              go_ret
              exact ⟨rfl, bthen ((Below.refl _ _).alloc (Nat.le_refl _) _) B1⟩
      · rw [if_neg hx]
        have x1 := beq_f hx
        by_cases h0 : 0 ≤ n.mn
        · by_cases h1 : n.mn ≤ n.mx
          · by_cases h2 : n.mx ≤ 9
            · rw [decide_eq_true ⟨h0, h1, h2⟩]
              have y2 : decide (n.mx ≤ 9) = true := decide_eq_true h2
              have y1 : decide (n.mn ≤ n.mx) = true := decide_eq_true h1
              have y0 : decide (0 ≤ n.mn) = true := decide_eq_true h0
              clear hx
              go_enter Tryd.func33, Tryd.ntmps33
              go_wp2_with fail
              refine (HB.out _).mono ?_
              rintro e w1 ⟨rfl, B1⟩
              have C1 := bcell_of B1
              go_wp2_with fail
              all_goals
                go_ret
                exact ⟨rfl, bthen ((Below.refl _ _).alloc (Nat.le_refl _) _) B1⟩
            · rw [decide_eq_false (fun h => h2 h.2.2)]
              have y2 : decide (n.mx ≤ 9) = false := decide_eq_false h2
              have y1 : decide (n.mn ≤ n.mx) = true := decide_eq_true h1
              have y0 : decide (0 ≤ n.mn) = true := decide_eq_true h0
              clear hx h2
              go_enter Tryd.func33, Tryd.ntmps33
              go_wp2_with fail
              refine (HB.out _).mono ?_
              rintro e w1 ⟨rfl, B1⟩
              have C1 := bcell_of B1
              go_wp2_with fail
              all_goals
                go_ret
                exact ⟨rfl, bthen ((Below.refl _ _).alloc (Nat.le_refl _) _) B1⟩
          · rw [decide_eq_false (fun h => h1 h.2.1)]
            have y1 : decide (n.mn ≤ n.mx) = false := decide_eq_false h1
            have y0 : decide (0 ≤ n.mn) = true := decide_eq_true h0
            clear hx h1
            go_enter Tryd.func33, Tryd.ntmps33
            go_wp2_with fail
            refine (HB.out _).mono ?_
            rintro e w1 ⟨rfl, B1⟩
            have C1 := bcell_of B1
            go_wp2_with fail
            all_goals
              go_ret
              exact ⟨rfl, bthen ((Below.refl _ _).alloc (Nat.le_refl _) _) B1⟩
        · rw [decide_eq_false (fun h => h0 h.1)]
          have y0 : decide (0 ≤ n.mn) = false := decide_eq_false h0
          clear hx h0
          go_enter Tryd.func33, Tryd.ntmps33
          go_wp2_with fail
          refine (HB.out _).mono ?_
          rintro e w1 ⟨rfl, B1⟩
          have C1 := bcell_of B1
          go_wp2_with fail
          all_goals
            go_ret
            exact ⟨rfl, bthen ((Below.refl _ _).alloc (Nat.le_refl _) _) B1⟩
  · have hm : Tr.may n = false := by unfold Tr.may; rw [decide_eq_false hk]; rfl
    rw [hm]
    clear hm
    by_cases h1 : 1 ≤ n.k
    · have k1 : decide ((n.k : Int) < 1) = false := decide_eq_false (by omega)
      have k2 : decide ((5 : Int) < n.k) = true := decide_eq_true (by omega)
      clear hk h1
      go_enter Tryd.func33, Tryd.ntmps33
      go_wp2_with fail
      all_goals
        go_ret
        exact ⟨rfl, by (repeat (first | exact Below.refl _ _ | assumption | refine Below.drew ?_ | refine Below.alloc ?_ (by first | exact Nat.le_refl _ | (simp; done) | (simp; omega) | omega) _ | refine Below.setCell ?_ (by first | exact Nat.le_refl _ | (simp; done) | (simp; omega) | omega) _))⟩
    · have h0 : n.k = 0 := by omega
      simp only [h0]
      clear hk h1 h0
      go_enter Tryd.func33, Tryd.ntmps33
      go_wp2_with fail
      all_goals
        go_ret
        exact ⟨rfl, by (repeat (first | exact Below.refl _ _ | assumption | refine Below.drew ?_ | refine Below.alloc ?_ (by first | exact Nat.le_refl _ | (simp; done) | (simp; omega) | omega) _ | refine Below.setCell ?_ (by first | exact Nat.le_refl _ | (simp; done) | (simp; omega) | omega) _))⟩
end Go.Proofs.YtebkaajnnjfhjaaDoor
