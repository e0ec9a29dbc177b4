/-
  tally.Compare, walked: cmp.Or, zero, Compare.
-/
import Derived.Test.YtedllapajgcfeaaGreatDoorTal
namespace Go.Proofs.YtedllapajgcfeaaGreatDoor
open Go.RowKit Go.Proofs.YtedllapajgcfeaaGreatDoorW.PrintWords

def orI (x y : Int) : Int := if x = 0 then y else x
set_option maxHeartbeats 800000 in
theorem or_any (g : Nat) (x y : Int) (w : World) (K0 : w.cell? ⟨g, 0, none⟩ = some (.int .i64 x)) (K1 : w.cell? ⟨g, 1, none⟩ = some (.int .i64 y)) : Calls Tryz.prog 22 #[.slice (some ⟨g, 0, none⟩) 2 2] w fun e w' => e = .returned (.int .i64 (orI x y)) ∧ w = w' := by
  have HO : Hid (orI x y = if x = 0 then y else x) := Lib.hid rfl
  go_enter Tryz.func22, Tryz.ntmps22
  go_wp2
  go_loopw [8] (fun i wr => ∃ k : Nat, k ≤ 2 ∧ i = .int .i64 k ∧ wr = w ∧ Hid ((0 < k → x = 0) ∧ (1 < k → y = 0))) (fun i _ => 2 - (intOf i).toNat)
  case atStart => exact ⟨0, by omega, rfl, rfl, Lib.hid ⟨fun h => absurd h (by omega), fun h => absurd h (by omega)⟩⟩
  case round =>
    obtain ⟨k, hk, rfl, rfl, HV⟩ := hrel
    have hk3 : k = 0 ∨ k = 1 ∨ k = 2 := by omega
    rcases hk3 with rfl | rfl | rfl
    · by_cases hx : x = 0
      · subst hx
        clear HV
        go_wp2_with fail
        go_roundw
        case rel => exact ⟨1, by omega, by go_num, trivial, Lib.hid (by simp)⟩
        case measure => simp [intOf]
      · rw [if_neg hx] at HO
        have n2 : (x == 0) = false := by simpa using hx
        have n3 : decide (x = 0) = false := by simpa using hx
        clear HV
        go_wp2_with fail
        go_ret
        exact ⟨congrArg (fun z => Ending.returned (Value.int .i64 z)) HO.out.symm, rfl⟩
    · have hx0 := HV.out.1 (by omega)
      subst hx0
      rw [if_pos rfl] at HO
      by_cases hy : y = 0
      · subst hy
        clear HV
        go_wp2_with fail
        go_roundw
        case rel => exact ⟨2, by omega, by go_num, trivial, Lib.hid (by simp)⟩
        case measure => simp [intOf]
      · have n2 : (y == 0) = false := by simpa using hy
        have n3 : decide (y = 0) = false := by simpa using hy
        clear HV
        go_wp2_with fail
        go_ret
        exact ⟨congrArg (fun z => Ending.returned (Value.int .i64 z)) HO.out.symm, rfl⟩
    · have hx0 := HV.out.1 (by omega)
      have hy0 := HV.out.2 (by omega)
      subst hx0 hy0
      rw [if_pos rfl] at HO
      clear HV
      go_wp2_with fail
      go_ret
      exact ⟨congrArg (fun z => Ending.returned (Value.int .i64 z)) HO.out.symm, rfl⟩

theorem key_zero : Fl.key 0 = 0 := by decide +kernel
def zz (x : Nat) : Int := if nanB x then 0 else if Fl.key x = 0 then (if Fl.sg x then -1 else 1) else 0
theorem zero_any (x : Nat) (h : x < 18446744073709551616) (w : World) : Calls Tryz.prog 25 #[.float .f64 x] w fun e w' => e = .returned (.int .i64 (zz x)) ∧ w = w' := by
  have HS := Lib.hid (signbit_any x h)
  have n0 : nanB 0 = false := by decide +kernel
  cases hn : nanB x
  · have ho := ord_some hn n0
    rw [key_zero] at ho
    have hz : Hid (zz x = if Fl.key x = 0 then (if Fl.sg x then -1 else 1) else 0) := Lib.hid (by unfold zz; rw [hn]; rfl)
    clear hn n0
    rcases Int.lt_trichotomy (Fl.key x) 0 with hk | hk | hk
    · rw [show compare (Fl.key x) 0 = .lt by show compareOfLessAndEq _ _ = _; unfold compareOfLessAndEq; rw [if_pos hk]] at ho
      rw [if_neg (by omega)] at hz
      rw [hz.out]
      clear hk hz HS
      go_enter Tryz.func25, Tryz.ntmps25
      go_wp2_with fail
      go_ret
      exact ⟨rfl, rfl⟩
    · rw [show compare (Fl.key x) 0 = .eq by show compareOfLessAndEq _ _ = _; unfold compareOfLessAndEq; rw [if_neg (by omega), if_pos hk]] at ho
      rw [if_pos hk] at hz
      clear hk
      cases hs : Fl.sg x
      all_goals
        rw [hs] at hz HS
        rw [hz.out]
        clear hs hz
        go_enter Tryz.func25, Tryz.ntmps25
        go_wp2_with fail
        refine (HS.out _).mono ?_
        rintro e w1 ⟨rfl, rfl⟩
        clear HS
        go_wp2_with fail
        go_ret
        exact ⟨rfl, rfl⟩
    · rw [show compare (Fl.key x) 0 = .gt by show compareOfLessAndEq _ _ = _; unfold compareOfLessAndEq; rw [if_neg (by omega), if_neg (by omega)]] at ho
      rw [if_neg (by omega)] at hz
      rw [hz.out]
      clear hk hz HS
      go_enter Tryz.func25, Tryz.ntmps25
      go_wp2_with fail
      go_ret
      exact ⟨rfl, rfl⟩
  · have ho : FloatKind.f64.format.order x 0 = none := Fl.ord_nan (Or.inl ((nanB_iff x).1 hn))
    rw [show zz x = 0 by unfold zz; rw [hn]; rfl]
    clear hn n0 HS
    go_enter Tryz.func25, Tryz.ntmps25
    go_wp2_with fail
    go_ret
    exact ⟨rfl, rfl⟩
def cp (a b : Nat) : Int := orI (fc a b) (ci (zz a) (zz b))
set_option maxHeartbeats 800000 in
theorem compare_any (a b : Nat) (ha : a < 18446744073709551616) (hb : b < 18446744073709551616) (w : World) : Calls Tryz.prog 9 #[.float .f64 a, .float .f64 b] w fun e w' => e = .returned (.int .i64 (cp a b)) ∧ Below w.heap.size w w' := by
  have H1 := Lib.hid (cmpF_any a b)
  have H2 := Lib.hid (zero_any a ha)
  have H3 := Lib.hid (zero_any b hb)
  have H4 := Lib.hid (cmpI_any (zz a) (zz b))
  have H5 := Lib.hid (fun (w : World) K0 K1 => or_any w.heap.size (fc a b) (ci (zz a) (zz b)) (w.alloc (.cells #[.int .i64 (fc a b), .int .i64 (ci (zz a) (zz b))] 3)) K0 K1)
  unfold cp
  generalize zz a = za at H2 H3 H4 H5 ⊢
  generalize zz b = zb at H2 H3 H4 H5 ⊢
  generalize fc a b = f at H1 H5 ⊢
  generalize ci za zb = c at H4 H5 ⊢
  go_enter Tryz.func9, Tryz.ntmps9
  go_wp2_with fail
  refine (H1.out _).mono ?_
  rintro e w1 ⟨rfl, rfl⟩
  go_wp2_with fail
  refine (H2.out _).mono ?_
  rintro e w1 ⟨rfl, rfl⟩
  go_wp2_with fail
  refine (H3.out _).mono ?_
  rintro e w1 ⟨rfl, rfl⟩
  go_wp2_with fail
  refine (H4.out _).mono ?_
  rintro e w1 ⟨rfl, rfl⟩
  go_wp2_with fail
  refine (H5.out _ (blk_cell (blk_new w (.cells #[.int .i64 f, .int .i64 c] 3)) 0) (blk_cell (blk_new w (.cells #[.int .i64 f, .int .i64 c] 3)) 1)).mono ?_
  rintro e w1 ⟨rfl, rfl⟩
  go_wp2_with fail
  go_ret
  exact ⟨rfl, (Below.refl _ _).alloc (Nat.le_refl _) _⟩
end Go.Proofs.YtedllapajgcfeaaGreatDoor
