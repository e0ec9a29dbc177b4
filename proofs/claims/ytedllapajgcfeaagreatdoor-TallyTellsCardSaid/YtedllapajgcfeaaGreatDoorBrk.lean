/-
  slices.breakPatternsCmpFunc of floats, and what it calls: walked.
-/
import Derived.Test.YtedllapajgcfeaaGreatDoorPiv
import Derived.Test.YtedllapajgcfeaaGreatDoorShf
import Derived.BigRegion
namespace Go.Proofs.YtedllapajgcfeaaGreatDoor
set_option linter.unusedVariables false
set_option linter.unusedSimpArgs false
open Go.RowKit Go.Proofs.YtedllapajgcfeaaGreatDoorW.PrintWords

/-- A block that holds a generator's state. -/
def Rnd (w : World) (s : Nat) : Prop := ∃ n : Nat, n < 18446744073709551616 ∧ w.heap[s]? = some (.cells #[.int .u64 n] 157 (0, 0))
theorem xor_lt (a b : Nat) (ha : a < 18446744073709551616) (hb : b < 18446744073709551616) : a ^^^ b < 18446744073709551616 := Nat.xor_lt_two_pow (n := 64) ha hb
theorem wrap_mod (n : Nat) : IntKind.u64.wrap (n : Int) = ((n % 18446744073709551616 : Nat) : Int) := by
  rw [IntKind.wrap_u64]; omega
theorem xor_at (a b : Nat) (ha : a < 18446744073709551616) (hb : b < 18446744073709551616) : ∃ x : Nat, bits .xor .u64 (a : Int) (b : Int) = (x : Int) ∧ x < 18446744073709551616 := ⟨a ^^^ b, u64_xor_nat a b ha hb, xor_lt a b ha hb⟩
theorem mul_a (a : Nat) : ∃ x : Nat, IntKind.u64.wrap ((a : Int) * 8192) = (x : Int) ∧ x < 18446744073709551616 := ⟨a * 8192 % 18446744073709551616, by rw [← wrap_mod]; rfl, Nat.mod_lt _ (by decide)⟩
theorem mul_b (a : Nat) : ∃ x : Nat, IntKind.u64.wrap ((a : Int) * 131072) = (x : Int) ∧ x < 18446744073709551616 := ⟨a * 131072 % 18446744073709551616, by rw [← wrap_mod]; rfl, Nat.mod_lt _ (by decide)⟩
theorem Rnd.cells {w : World} {s n : Nat} (hb : w.heap[s]? = some (.cells #[.int .u64 n] 157 (0, 0))) : w.cell? ⟨s, 0, none⟩ = some (.int .u64 n) ∧ w.frozen? ⟨s, 0, none⟩ = false := by
  have c0 := blk_cell hb 0
  simp at c0
  exact ⟨c0, blk_frozen hb 0⟩
theorem rnd_put {w : World} {s n : Nat} (hb : w.heap[s]? = some (.cells #[.int .u64 n] 157 (0, 0))) (x : Nat) : (w.setCell ⟨s, 0, none⟩ (.int .u64 x)).drew.heap[s]? = some (.cells #[.int .u64 x] 157 (0, 0)) := blk_put hb 0 _ rfl
set_option maxRecDepth 100000 in
set_option maxHeartbeats 3200000 in
theorem next_any (s : Nat) (w : World) (hs : Rnd w s) :
    Calls Tryz.prog 125 #[.pointer (some ⟨s, 0, none⟩)] w fun e w' => ∃ x : Nat, e = .returned (.int .u64 x) ∧ x < 18446744073709551616 ∧ Rnd w' s ∧ Bx s w w' := by
  obtain ⟨n, hn, hb⟩ := hs
  obtain ⟨m1, r1, l1⟩ := mul_a n
  obtain ⟨x1, b1, k1⟩ := xor_at n m1 hn l1
  obtain ⟨m2, r2⟩ : ∃ m2 : Nat, (x1 : Int) / 128 = (m2 : Int) := ⟨x1 / 128, by omega⟩
  have l2 : m2 < 18446744073709551616 := by omega
  obtain ⟨x2, b2, k2⟩ := xor_at x1 m2 k1 l2
  obtain ⟨m3, r3, l3⟩ := mul_b x2
  obtain ⟨x3, b3, k3⟩ := xor_at x2 m3 k2 l3
  have HL := Lib.hid k3
  have s1 : (0 : Int) ≤ (x1 : Int) := by omega
  obtain ⟨W, hW⟩ : ∃ W, W = w := ⟨_, rfl⟩
  have HB0 := Lib.hid hb
  have HX0 := Lib.hid (Bx.refl s w)
  obtain ⟨c0, f0⟩ := Rnd.cells hb
  rw [← hW] at HX0 ⊢
  clear hn l1 k1 l2 k2 l3 k3 hb
  subst hW
  go_enter Tryz.func125, Tryz.ntmps125
  go_wp2_with fail
  go_region_with (fail)
  all_goals
    go_wp2_with fail
    have hb1 := rnd_put HB0.out x1
    have hx1 := (HX0.out.set 0 (.int .u64 x1)).drew
    obtain ⟨W1, hW1⟩ : ∃ W1, W1 = (W.setCell ⟨s, 0, none⟩ (.int .u64 x1)).drew := ⟨_, rfl⟩
    rw [← hW1] at hb1 hx1 ⊢
    clear hW1 c0 f0
    have HB1 := Lib.hid hb1
    have HX1 := Lib.hid hx1
    obtain ⟨c0, f0⟩ := Rnd.cells hb1
    clear hb1 hx1
    go_wp2_with fail
    go_region_with (fail)
    all_goals
      go_wp2_with fail
      have hb1 := rnd_put HB1.out x2
      have hx1 := (HX1.out.set 0 (.int .u64 x2)).drew
      obtain ⟨W2, hW2⟩ : ∃ W2, W2 = (W1.setCell ⟨s, 0, none⟩ (.int .u64 x2)).drew := ⟨_, rfl⟩
      rw [← hW2] at hb1 hx1 ⊢
      clear hW2 c0 f0
      have HB2 := Lib.hid hb1
      have HX2 := Lib.hid hx1
      obtain ⟨c0, f0⟩ := Rnd.cells hb1
      clear hb1 hx1
      go_wp2_with fail
      go_region_with (fail)
      all_goals
        go_wp2_with fail
        go_ret
        exact ⟨x3, rfl, HL.out, ⟨x3, HL.out, rnd_put HB2.out x3⟩, (HX2.out.set 0 (.int .u64 x3)).drew⟩
theorem len_tab : ∀ n, n < 1001 → 13 ≤ n → Lib.bitLen n = 4 ∨ Lib.bitLen n = 5 ∨ Lib.bitLen n = 6 ∨ Lib.bitLen n = 7 ∨ Lib.bitLen n = 8 ∨ Lib.bitLen n = 9 ∨ Lib.bitLen n = 10 := by decide +kernel
theorem len_le : ∀ n, n < 1001 → 13 ≤ n → 2 ^ Lib.bitLen n ≤ 2 * n := by decide +kernel
set_option maxHeartbeats 3200000 in
theorem npow_any (n : Nat) (h1 : 13 ≤ n) (h2 : n ≤ 1000) (w : World) : Calls Tryz.prog 124 #[.int .i64 n] w fun e w' => ∃ P : Nat, e = .returned (.int .u64 P) ∧ 1 ≤ P ∧ P ≤ 2 * n ∧ w' = w := by
  have HL : Hid (Calls Tryz.prog 55 #[.int .u64 n] w fun e w' => e = .returned (.int .i64 (Lib.bitLen n)) ∧ w' = w) := Lib.hid (Tryz.bits_Len (n : Int) w (by omega) (by omega))
  have hk := len_tab n (by omega) h1
  have hb := len_le n (by omega) h1
  generalize Lib.bitLen n = k at *
  have HB := Lib.hid hb
  clear hb
  rcases hk with rfl | rfl | rfl | rfl | rfl | rfl | rfl
  all_goals
    go_enter Tryz.func124, Tryz.ntmps124
    go_wp2_with fail
    refine HL.out.mono ?_
    rintro e w1 ⟨rfl, rfl⟩
    go_wp2_with fail
    go_ret
    have := HB.out
    exact ⟨_, rfl, by decide, by simpa using this, rfl⟩
theorem and_le (x p : Nat) (hx : x < 18446744073709551616) (hp : p < 18446744073709551616) : ∃ y : Nat, bits .and .u64 (x : Int) (p : Int) = (y : Int) ∧ y ≤ p := ⟨x &&& p, u64_and_nat x p hx hp, Nat.and_le_right⟩
theorem bx_new {g s : Nat} {w wr w1 : World} (h : Bx g w wr) (hg : g < w.heap.size) (hs : w.heap.size ≤ s) (hb : Bx s wr w1) : Bx g w w1 :=
  ⟨h.1.trans (hb.1.mono (by omega)), fun j h1 h2 => (hb.blk (Nat.lt_of_lt_of_le h2 h.1.size) (by omega)).trans (h.2 j h1 h2)⟩
theorem rnd_far {w : World} {s g : Nat} (h : Rnd w s) (hn : s ≠ g) (i j : Nat) (u v : Value) : Rnd (((w.setCell ⟨g, i, none⟩ u).setCell ⟨g, j, none⟩ v).drew) s := by
  obtain ⟨n, hn', hb⟩ := h
  exact ⟨n, hn', blk_far (blk_far hb (p := ⟨g, i, none⟩) hn u) (p := ⟨g, j, none⟩) hn v⟩
set_option maxRecDepth 100000 in
set_option maxHeartbeats 6400000 in
theorem brk_any (T : List Value) (g cap a b N : Nat) (L : List Nat) (hN : L.length = N) (hL : N ≤ 1000) (hab : a + 12 < b) (hbl : b ≤ N) (w : World) (hg : RowF T w g L) :
    Calls Tryz.prog 87 #[.slice (some ⟨g, 0, none⟩) N cap, .int .i64 a, .int .i64 b, .func (.func 9) #[] #[]] w fun e w' => e = .returned (.tuple #[]) ∧ Tn T g a b L (fun _ => True) w w' := by
  have HG := Lib.hid (blk_lt hg)
  have HNN := Lib.hid hN
  obtain ⟨n, hn⟩ : ∃ n : Nat, b - a = n := ⟨_, rfl⟩
  obtain ⟨v, hv⟩ : ∃ v : Nat, n / 4 = v := ⟨_, rfl⟩
  obtain ⟨v2, hv2⟩ : ∃ v2 : Nat, v * 2 = v2 := ⟨_, rfl⟩
  obtain ⟨j, hj⟩ : ∃ j : Nat, a + v2 = j := ⟨_, rfl⟩
  obtain ⟨m, hm⟩ : ∃ m : Nat, j = m + 1 := ⟨j - 1, by omega⟩
  have e1 : (b : Int) - (a : Int) = (n : Int) := by omega
  have e2 : (n : Int) / 4 = (v : Int) := by omega
  have e2' : Int.tdiv (n : Int) 4 = (v : Int) := by rw [Int.tdiv_eq_ediv_of_nonneg (by omega)]; exact e2
  have e3 : (v : Int) * 2 = (v2 : Int) := by omega
  have e6 : (a : Int) + (v2 : Int) = (j : Int) := by omega
  have e7 : (j : Int) - 1 = (m : Int) := by omega
  have w1 : IntKind.i64.wrap (n : Int) = (n : Int) := IntWalk.i64_in _ (by omega)
  have w2 : IntKind.i64.wrap (v : Int) = (v : Int) := IntWalk.i64_in _ (by omega)
  have w3 : IntKind.i64.wrap (v2 : Int) = (v2 : Int) := IntWalk.i64_in _ (by omega)
  have w6 : IntKind.i64.wrap (j : Int) = (j : Int) := IntWalk.i64_in _ (by omega)
  have w7 : IntKind.i64.wrap (m : Int) = (m : Int) := IntWalk.i64_in _ (by omega)
  have w8 : IntKind.i64.wrap ((j : Int) + 1) = (j : Int) + 1 := IntWalk.i64_in _ (by omega)
  have t8 : decide ((8 : Int) ≤ (n : Int)) = true := decide_eq_true (by omega)
  have hii : a < m ∧ m + 1 = j ∧ j + 2 < b ∧ a + n = b ∧ 13 ≤ n ∧ n ≤ 1000 := ⟨by omega, by omega, by omega, by omega, by omega, by omega⟩
  have HH := Lib.hid hii
  have HP := Lib.hid (npow_any n hii.2.2.2.2.1 hii.2.2.2.2.2)
  have HRW : Hid (RowF T (w.alloc (.cells #[.int .u64 n] 157)) g L ∧ Rnd (w.alloc (.cells #[.int .u64 n] 157)) w.heap.size ∧ g ≠ w.heap.size ∧ Bx g w (w.alloc (.cells #[.int .u64 n] 157))) := Lib.hid ⟨hg.below ((Below.refl _ _).alloc (Nat.le_refl _) _), ⟨n, by omega, blk_new _ _⟩, by have := HG.out; omega, (Bx.refl _ _).alloc HG.out _⟩
  clear hg hN hn hv hv2 hj hm hii
  go_enter Tryz.func87, Tryz.ntmps87
  go_wp2_with fail
  refine (HP.out _).mono ?_
  rintro e w9 ⟨P, rfl, hP1, hP2, rfl⟩
  have HPP := Lib.hid (And.intro hP1 hP2)
  have eP : (P : Int) - 1 = ((P - 1 : Nat) : Int) := by omega
  generalize P - 1 = p at eP
  have hpp : Hid (p < 2 * n) := Lib.hid (by omega)
  have wp : IntKind.u64.wrap (p : Int) = (p : Int) := IntWalk.u64_in _ (by have := hpp.out; have := HH.out; omega)
  clear hP1 hP2
  go_wp2_with fail
  go_loopw [11] (fun iv wr => ∃ (c : Nat) (R : List Nat), iv = .int .i64 c ∧ m ≤ c ∧ c ≤ m + 3 ∧ RowF T wr g R ∧ Pm a b L R ∧ Rnd wr w.heap.size ∧ Bx g w wr) (fun iv _ => N + 1 - (RowKit.intOf iv).toNat)
  case atStart => exact ⟨m, L, rfl, Nat.le_refl _, by omega, HRW.out.1, Pm.refl _ _ _, HRW.out.2.1, HRW.out.2.2.2⟩
  case round =>
    obtain ⟨c, R, rfl, hmc, hcm, HR0, HP0, HN0, HX0⟩ := hrel
    have hRl : R.length = N := HP0.len.trans HNN.out
    by_cases hcj : c ≤ j + 1
    · have t1 : decide ((c : Int) ≤ (j : Int) + 1) = true := decide_eq_true (by omega)
      have wc : IntKind.i64.wrap ((c : Int) + 1) = (c : Int) + 1 := IntWalk.i64_in _ (by have := HH.out; omega)
      have hcj' : c + 1 ≤ m + 3 := by have := HH.out; omega
      have HA := Lib.hid (And.intro HR0 (And.intro HP0 (And.intro HN0 HX0)))
      clear HR0 HP0 HN0 HX0
      go_wp2_with fail
      refine (next_any w.heap.size _ HA.out.2.2.1).mono ?_
      rintro e w5 ⟨x, rfl, hx, hr5, hb5⟩
      have HZ := Lib.hid (And.intro (HA.out.1.bx hb5 HRW.out.2.2.1) (And.intro HA.out.2.1 (And.intro hr5 (bx_new HA.out.2.2.2 HG.out (Nat.le_refl _) hb5))))
      obtain ⟨y, hy, hyp⟩ := and_le x p hx (by have := hpp.out; have := HH.out; omega)
      have HY : Hid (y < 2 * n) := Lib.hid (by have := hpp.out; omega)
      have wy : IntKind.i64.wrap (y : Int) = (y : Int) := IntWalk.i64_in _ (by have := HY.out; have := HH.out; omega)
      clear hx hr5 hb5 HA hyp
      by_cases hyn : n ≤ y
      · have t2 : decide ((n : Int) ≤ (y : Int)) = true := decide_eq_true (by omega)
        obtain ⟨o, ho⟩ : ∃ o : Nat, y - n = o := ⟨_, rfl⟩
        have eo : (y : Int) - (n : Int) = (o : Int) := by omega
        have wo : IntKind.i64.wrap (o : Int) = (o : Int) := IntWalk.i64_in _ (by have := HY.out; have := HH.out; omega)
        have on : o < n := by have := HY.out; omega
        obtain ⟨q, hq⟩ : ∃ q : Nat, a + o = q := ⟨_, rfl⟩
        have eq : (a : Int) + (o : Int) = (q : Int) := by omega
        have wq : IntKind.i64.wrap (q : Int) = (q : Int) := IntWalk.i64_in _ (by have := HH.out; omega)
        have i0 : (q : Int) < N := by have := HH.out; omega
        have i1 : (c : Int) < N := by have := HH.out; omega
        have i2 : (0 : Int) ≤ (q : Int) := by omega
        have i3 : (0 : Int) ≤ (c : Int) := by omega
        have hcN : c < N := by have := HH.out; omega
        have hqN : q < N := by have := HH.out; omega
        have HPS : Hid (Pm a b L (sw R c q)) := Lib.hid (HZ.out.2.1.trans (sw_pm R c q (by rw [hRl]; omega) (by rw [hRl]; omega) (by have := HH.out; omega) (by have := HH.out; omega) (by omega) (by have := HH.out; omega)))
        have hR1 := HZ.out.1
        have HX1 := Lib.hid HZ.out.2.2.2
        obtain ⟨x', hx⟩ : ∃ x, R.getD c 0 = x := ⟨_, rfl⟩
        obtain ⟨y', hy⟩ : ∃ y, R.getD q 0 = y := ⟨_, rfl⟩
        obtain ⟨d1, d2, d3, d4, d5, d6, d7, d8, d9, d10, d11, d12, HRd⟩ := swp_ctx hR1 c q (by rw [hRl]; omega) (by rw [hRl]; omega) hx hy
        have HXd := Lib.hid (bx_swp HX1.out c q (.float .f64 y') (.float .f64 x'))
        clear hx hy
        have HRN : Hid (Rnd (((w5.setCell ⟨g, c, none⟩ (.float .f64 y')).setCell ⟨g, q, none⟩ (.float .f64 x')).drew) w.heap.size) := Lib.hid (rnd_far HZ.out.2.2.1 (by have := HG.out; omega) _ _ _ _)
        clear hR1 hq
        go_wp2_with fail
        go_region
        all_goals
          go_wp2_with fail
          go_roundw
          case rel => exact ⟨c + 1, _, by go_num, by omega, by omega, HRd.out, HPS.out, HRN.out, HXd.out⟩
          case measure => simp [RowKit.intOf] <;> omega
      · have t2 : decide ((n : Int) ≤ (y : Int)) = false := decide_eq_false (by omega)
        obtain ⟨o, ho⟩ : ∃ o : Nat, o = y := ⟨_, rfl⟩
        subst ho
        have on : o < n := by have := HY.out; omega
        obtain ⟨q, hq⟩ : ∃ q : Nat, a + o = q := ⟨_, rfl⟩
        have eq : (a : Int) + (o : Int) = (q : Int) := by omega
        have wq : IntKind.i64.wrap (q : Int) = (q : Int) := IntWalk.i64_in _ (by have := HH.out; omega)
        have i0 : (q : Int) < N := by have := HH.out; omega
        have i1 : (c : Int) < N := by have := HH.out; omega
        have i2 : (0 : Int) ≤ (q : Int) := by omega
        have i3 : (0 : Int) ≤ (c : Int) := by omega
        have hcN : c < N := by have := HH.out; omega
        have hqN : q < N := by have := HH.out; omega
        have HPS : Hid (Pm a b L (sw R c q)) := Lib.hid (HZ.out.2.1.trans (sw_pm R c q (by rw [hRl]; omega) (by rw [hRl]; omega) (by have := HH.out; omega) (by have := HH.out; omega) (by omega) (by have := HH.out; omega)))
        have hR1 := HZ.out.1
        have HX1 := Lib.hid HZ.out.2.2.2
        obtain ⟨x', hx⟩ : ∃ x, R.getD c 0 = x := ⟨_, rfl⟩
        obtain ⟨y', hy⟩ : ∃ y, R.getD q 0 = y := ⟨_, rfl⟩
        obtain ⟨d1, d2, d3, d4, d5, d6, d7, d8, d9, d10, d11, d12, HRd⟩ := swp_ctx hR1 c q (by rw [hRl]; omega) (by rw [hRl]; omega) hx hy
        have HXd := Lib.hid (bx_swp HX1.out c q (.float .f64 y') (.float .f64 x'))
        clear hx hy
        have HRN : Hid (Rnd (((w5.setCell ⟨g, c, none⟩ (.float .f64 y')).setCell ⟨g, q, none⟩ (.float .f64 x')).drew) w.heap.size) := Lib.hid (rnd_far HZ.out.2.2.1 (by have := HG.out; omega) _ _ _ _)
        clear hR1 hq
        go_wp2_with fail
        go_region
        all_goals
          go_wp2_with fail
          go_roundw
          case rel => exact ⟨c + 1, _, by go_num, by omega, by omega, HRd.out, HPS.out, HRN.out, HXd.out⟩
          case measure => simp [RowKit.intOf] <;> omega
    · have t1 : decide ((c : Int) ≤ (j : Int) + 1) = false := decide_eq_false (by omega)
      have HFIN : Hid (Tn T g a b L (fun _ => True) w wr) := Lib.hid ⟨R, HR0, HP0, trivial, HX0⟩
      clear HR0 HP0 HN0 HX0
      go_wp2_with fail
      first
        | (go_end0; exact ⟨rfl, HFIN.out⟩)
        | exact bodyPost_ret (results_none rfl _ _ _) rfl ⟨rfl, HFIN.out⟩
end Go.Proofs.YtedllapajgcfeaaGreatDoor
