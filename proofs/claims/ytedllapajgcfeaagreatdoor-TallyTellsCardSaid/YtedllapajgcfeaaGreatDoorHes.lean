/-
  slices.heapSortCmpFunc of floats by tally.Compare: walked.
-/
import Derived.Test.YtedllapajgcfeaaGreatDoorHea
namespace Go.Proofs.YtedllapajgcfeaaGreatDoor
set_option linter.unusedVariables false
set_option linter.unusedSimpArgs false
open Go.RowKit Go.Proofs.YtedllapajgcfeaaGreatDoorW.PrintWords

/-- A heap of k places, and behind it what is in order and not ahead of it. -/
structure Hv (a n k : Nat) (R : List Nat) : Prop where
  hp : Hp a 0 k R
  so : So (a + k) (a + n) R
  le : ∀ p q, p < k → k ≤ q → q < n → rk (R.getD (a + p) 0) ≤ rk (R.getD (a + q) 0)
theorem Hv.start {a n : Nat} {R : List Nat} (h : Hp a 0 n R) : Hv a n n R := ⟨h, So.nil _ _ _ (by omega), fun p q h1 h2 h3 => by omega⟩
theorem Hv.sift {a n j : Nat} {R : List Nat} (h : Hv a n (j + 1) R) (hl : a + n ≤ R.length) (hj : j < n) : Hp a (0 + 1) j (sw R a (a + j)) := by
  intro k c h1 h2 h3
  rw [sw_at _ _ _ _ (by omega) (by omega), sw_at _ _ _ _ (by omega) (by omega), if_neg (by omega), if_neg (by omega), if_neg (by omega), if_neg (by omega)]
  exact h.hp k c (by omega) h2 (by omega)
theorem Hv.step {a n j : Nat} {R M : List Nat} (h : Hv a n (j + 1) R) (hl : a + n ≤ R.length) (hj : j < n) (hp : Hp a 0 j M) (pm : Pm (a + 0) (a + j) (sw R a (a + j)) M) : Hv a n j M := by
  have e := fun k => sw_at R a (a + j) k (by omega) (by omega)
  have top := h.hp.top
  refine ⟨hp, ?_, ?_⟩
  · intro p q h1 h2 h3
    rw [pm.out p (by omega), pm.out q (by omega), e, e, if_neg (show ¬ q = a + j by omega), if_neg (show ¬ q = a by omega)]
    by_cases c : p = a + j
    · rw [if_pos c]
      obtain ⟨q', rfl⟩ : ∃ q', q = a + q' := ⟨q - a, by omega⟩
      exact h.le 0 q' (by omega) (by omega) (by omega)
    · rw [if_neg c, if_neg (by omega)]
      exact h.so p q (by omega) h2 h3
  · intro p q h1 h2 h3
    rw [pm.out (a + q) (by omega)]
    refine pm.all (fun x => rk x ≤ rk ((sw R a (a + j)).getD (a + q) 0)) (fun i h4 h5 => ?_) (a + p) (by omega) (by omega)
    obtain ⟨i', rfl⟩ : ∃ i', i = a + i' := ⟨i - a, by omega⟩
    show rk ((sw R a (a + j)).getD (a + i') 0) ≤ _
    rw [e, e, if_neg (show ¬ a + i' = a + j by omega)]
    by_cases cq : q = j
    · rw [if_pos (show a + q = a + j by omega)]
      by_cases ci : i' = 0
      · rw [if_pos (show a + i' = a by omega)]; exact top j (by omega)
      · rw [if_neg (show ¬ a + i' = a by omega)]; exact top i' (by omega)
    · rw [if_neg (show ¬ a + q = a + j by omega), if_neg (show ¬ a + q = a by omega)]
      by_cases ci : i' = 0
      · rw [if_pos (show a + i' = a by omega)]; exact h.le j q (by omega) (by omega) h3
      · rw [if_neg (show ¬ a + i' = a by omega)]; exact h.le i' q (by omega) (by omega) h3
theorem sift_n (T : List Value) (g cap lo hi f N : Nat) (L : List Nat) (hN : L.length = N) (hL : N ≤ 1000) (h64 : Fin64 L) (hfl : f + hi ≤ N) (hlo : lo ≤ 1000) (hh : Hp f (lo + 1) hi L) (w : World) (hg : RowF T w g L) :
    Calls Tryz.prog 123 #[.slice (some ⟨g, 0, none⟩) N cap, .int .i64 lo, .int .i64 hi, .int .i64 f, .func (.func 9) #[] #[]] w fun e w' => e = .returned (.tuple #[]) ∧ Tn T g (f + lo) (f + hi) L (Hp f lo hi) w w' := by
  subst hN
  exact sift_any T g cap lo hi f L hL h64 hfl hlo hh w hg
set_option maxRecDepth 100000 in
set_option maxHeartbeats 6400000 in
theorem heap_any (T : List Value) (g cap a b N : Nat) (L : List Nat) (hN : L.length = N) (hL : N ≤ 1000) (h64 : Fin64 L) (hab : a < b) (hbl : b ≤ N) (w : World) (hg : RowF T w g L) :
    Calls Tryz.prog 86 #[.slice (some ⟨g, 0, none⟩) N cap, .int .i64 a, .int .i64 b, .func (.func 9) #[] #[]] w fun e w' => e = .returned (.tuple #[]) ∧ Tn T g a b L (So a b) w w' := by
  have HG := Lib.hid (blk_lt hg)
  have HNN := Lib.hid hN
  obtain ⟨n, hn⟩ : ∃ n : Nat, b - a = n := ⟨_, rfl⟩
  obtain ⟨m, hm⟩ : ∃ m : Nat, n - 1 = m := ⟨_, rfl⟩
  obtain ⟨i0, hi0⟩ : ∃ i0 : Nat, m / 2 = i0 := ⟨_, rfl⟩
  have e1 : (b : Int) - (a : Int) = (n : Int) := by omega
  have e2 : (n : Int) - 1 = (m : Int) := by omega
  have e3 : (m : Int) / 2 = (i0 : Int) := by omega
  have e4 : Int.tdiv (m : Int) 2 = (i0 : Int) := by rw [Int.tdiv_eq_ediv_of_nonneg (by omega)]; exact e3
  have w1 : IntKind.i64.wrap (n : Int) = (n : Int) := IntWalk.i64_in _ (by omega)
  have w2 : IntKind.i64.wrap (m : Int) = (m : Int) := IntWalk.i64_in _ (by omega)
  have w3 : IntKind.i64.wrap (i0 : Int) = (i0 : Int) := IntWalk.i64_in _ (by omega)
  have HE := Lib.hid (And.intro hn (And.intro hm hi0))
  clear hn hm hi0 hN
  go_enter Tryz.func86, Tryz.ntmps86
  go_wp2_with fail
  go_loopw [11] (fun iv wr => ∃ (z : Int) (k : Nat) (R : List Nat), iv = .int .i64 z ∧ Hid (z + 1 = k ∧ k ≤ i0 + 1) ∧ RowF T wr g R ∧ Pm a b L R ∧ Hp a k n R ∧ Bx g w wr) (fun iv _ => (RowKit.intOf iv + 1).toNat)
  case atStart => exact ⟨i0, i0 + 1, L, rfl, Lib.hid ⟨by omega, Nat.le_refl _⟩, hg, Pm.refl _ _ _, fun k c h1 h2 h3 => by have := HE.out; omega, Bx.refl _ _⟩
  case round =>
    obtain ⟨z, k, R, rfl, hz, HR0, HP0, HH0, HX0⟩ := hrel
    obtain ⟨W0, hW0, HR⟩ : ∃ z, z = _ ∧ RowF T z g R := ⟨_, rfl, HR0⟩
    subst hW0
    clear HR0
    by_cases h0 : 0 ≤ z
    · obtain ⟨j, rfl⟩ := Int.eq_ofNat_of_zero_le h0
      have hjk : j + 1 = k := by have := hz.out; omega
      have t1 : decide ((0 : Int) ≤ (j : Int)) = true := decide_eq_true (by omega)
      have wj : IntKind.i64.wrap ((j : Int) - 1) = (j : Int) - 1 := IntWalk.i64_in _ (by have := hz.out; have := HE.out; omega)
      subst hjk
      have HS := Lib.hid (sift_n T g cap j n a N R (HP0.len.trans HNN.out) hL (HP0.fin h64) (by have := HE.out; omega) (by have := hz.out; have := HE.out; omega) HH0 W0 HR)
      have HPX := Lib.hid (And.intro HP0 HX0)
      clear HR HP0 HH0 HX0 h0
      go_wp2_with fail
      refine HS.out.mono ?_
      rintro e w4 ⟨rfl, M, hM1, hM2, hM3, hM4⟩
      have HM := Lib.hid (And.intro hM1 (And.intro hM2 (And.intro hM3 hM4)))
      clear hM1 hM2 hM3 hM4
      go_wp2_with fail
      go_roundw
      case rel => exact ⟨_, j, M, rfl, Lib.hid ⟨by omega, by have := hz.out; omega⟩, HM.out.1, HPX.out.1.trans (HM.out.2.1.wide (by omega) (by have := HE.out; omega)), HM.out.2.2.1, HPX.out.2.trans HM.out.2.2.2⟩
      case measure => simp [RowKit.intOf] <;> omega
    · have t1 : decide ((0 : Int) ≤ z) = false := decide_eq_false h0
      have hk0 : k = 0 := by have := hz.out; omega
      subst hk0
      have HA := Lib.hid (And.intro HR (And.intro HP0 (And.intro HH0 HX0)))
      clear HR HP0 HH0 HX0 h0 hz
      go_wp2_with fail
      go_loopw [12] (fun iv wr => ∃ (z : Int) (k : Nat) (R : List Nat), iv = .int .i64 z ∧ Hid (z + 1 = k ∧ k ≤ n) ∧ RowF T wr g R ∧ Pm a b L R ∧ Hv a n k R ∧ Bx g w wr) (fun iv _ => (RowKit.intOf iv + 1).toNat)
      case atStart => exact ⟨m, n, R, rfl, Lib.hid ⟨by have := HE.out; omega, Nat.le_refl _⟩, HA.out.1, HA.out.2.1, Hv.start HA.out.2.2.1, HA.out.2.2.2⟩
      case round =>
        clear HA
        obtain ⟨z, k, R, rfl, hz, HR0, HP0, HH0, HX0⟩ := hrel
        obtain ⟨W1, hW1, HR⟩ : ∃ z, z = _ ∧ RowF T z g R := ⟨_, rfl, HR0⟩
        subst hW1
        clear HR0
        by_cases h0 : 0 ≤ z
        · obtain ⟨j, rfl⟩ := Int.eq_ofNat_of_zero_le h0
          have hjk : j + 1 = k := by have := hz.out; omega
          subst hjk
          have hRl : R.length = N := HP0.len.trans HNN.out
          have t1 : decide ((0 : Int) ≤ (j : Int)) = true := decide_eq_true (by omega)
          have hjn : j < n := by have := hz.out; omega
          have wj : IntKind.i64.wrap ((j : Int) - 1) = (j : Int) - 1 := IntWalk.i64_in _ (by have := HE.out; omega)
          obtain ⟨q, hq⟩ : ∃ q : Nat, a + j = q := ⟨_, rfl⟩
          have k3 : (a : Int) + (j : Int) = (q : Int) := by omega
          have hqN : q < N := by have := HE.out; omega
          have i0 : (q : Int) < N := by omega
          have i1 : (a : Int) < N := by omega
          have i2 : (0 : Int) ≤ (q : Int) := by omega
          have i3 : (0 : Int) ≤ (a : Int) := by omega
          have wq0 : IntKind.i64.wrap (q : Int) = (q : Int) := IntWalk.i64_in _ (by omega)
          have wq1 : IntKind.i64.wrap ((a : Int) + (j : Int)) = (q : Int) := (IntWalk.i64_in _ (by omega)).trans k3
          obtain ⟨x, hx⟩ : ∃ x, R.getD a 0 = x := ⟨_, rfl⟩
          obtain ⟨y, hy⟩ : ∃ y, R.getD q 0 = y := ⟨_, rfl⟩
          obtain ⟨d1, d2, d3, d4, d5, d6, d7, d8, d9, d10, d11, d12, HRd⟩ := swp_ctx HR a q (by rw [hRl]; omega) (by rw [hRl]; omega) hx hy
          have hsl : (sw R a q).length = N := (sw_len _ _ _).trans hRl
          have hpm : Pm a b R (sw R a q) := sw_pm R a q (by rw [hRl]; omega) (by rw [hRl]; omega) (by omega) (by omega) (by omega) (by have := HE.out; omega)
          have hsf : Hp a (0 + 1) j (sw R a q) := by rw [← hq]; exact HH0.sift (by rw [hRl]; have := HE.out; omega) hjn
          have HS := Lib.hid (sift_n T g cap 0 j a N (sw R a q) hsl hL ((HP0.trans hpm).fin h64) (by have := HE.out; omega) (by omega) hsf _ HRd.out)
          have HPX := Lib.hid (And.intro (HP0.trans hpm) (And.intro (bx_swp HX0 a q (.float .f64 y) (.float .f64 x)) (And.intro HH0 (And.intro hRl hq))))
          clear HR HP0 HH0 HX0 h0 hsf hpm hsl hRl hq hx hy
          go_wp2_with fail
          go_region_with (fail)
          all_goals
            go_wp2_with fail
            refine HS.out.mono ?_
            rintro e w4 ⟨rfl, M, hM1, hM2, hM3, hM4⟩
            have HM := Lib.hid (And.intro hM1 (And.intro hM2 (And.intro hM3 hM4)))
            clear hM1 hM2 hM3 hM4
            go_wp2_with fail
            go_roundw
            case rel =>
              obtain ⟨h1, h2, h3, h4, h5⟩ := HPX.out
              have hE := HE.out
              refine ⟨_, j, M, rfl, Lib.hid ⟨by omega, by have := hz.out; omega⟩, HM.out.1, h1.trans (HM.out.2.1.wide (by omega) (by omega)), ?_, h2.trans HM.out.2.2.2⟩
              exact h3.step (by rw [h4]; omega) hjn HM.out.2.2.1 (by rw [h5]; rw [← h5]; exact h5 ▸ HM.out.2.1)
            case measure => simp [RowKit.intOf] <;> omega
        · have t1 : decide ((0 : Int) ≤ z) = false := decide_eq_false h0
          have hk0 : k = 0 := by have := hz.out; omega
          subst hk0
          have HFIN : Hid (Tn T g a b L (So a b) w W1) := Lib.hid ⟨R, HR, HP0, HH0.so.le (by omega) (by have := HE.out; omega), HX0⟩
          clear HR HP0 HH0 HX0 h0 hz
          go_wp2_with fail
          first
            | (go_end0; exact ⟨rfl, HFIN.out⟩)
            | exact bodyPost_ret (results_none rfl _ _ _) rfl ⟨rfl, HFIN.out⟩
end Go.Proofs.YtedllapajgcfeaaGreatDoor
