/-
  slices.reverseRangeCmpFunc of floats: walked.
-/
import Derived.Test.YtedllapajgcfeaaGreatDoorPq
import Derived.BigRegion
namespace Go.Proofs.YtedllapajgcfeaaGreatDoor
set_option linter.unusedVariables false
set_option linter.unusedSimpArgs false
open Go.RowKit Go.Proofs.YtedllapajgcfeaaGreatDoorW.PrintWords

set_option maxRecDepth 100000 in
set_option maxHeartbeats 6400000 in
theorem rev_any (T : List Value) (g cap a b N : Nat) (L : List Nat) (hN : L.length = N) (hL : N ≤ 1000) (hab : a < b) (hbl : b ≤ N) (w : World) (hg : RowF T w g L) :
    Calls Tryz.prog 89 #[.slice (some ⟨g, 0, none⟩) N cap, .int .i64 a, .int .i64 b, .func (.func 9) #[] #[]] w fun e w' => e = .returned (.tuple #[]) ∧ Tn T g a b L (fun _ => True) w w' := by
  have HNN := Lib.hid hN
  obtain ⟨j, hjb⟩ : ∃ j : Nat, b = j + 1 := ⟨b - 1, by omega⟩
  have eb : (b : Int) - 1 = (j : Int) := by omega
  have wjb : IntKind.i64.wrap (j : Int) = (j : Int) := IntWalk.i64_in _ (by omega)
  have HB := Lib.hid hjb
  clear hjb hN
  go_enter Tryz.func89, Tryz.ntmps89
  go_wp2_with fail
  go_loopw [8, 9] (fun iv jv wr => ∃ (i j : Nat) (R : List Nat), iv = .int .i64 i ∧ jv = .int .i64 j ∧ a ≤ i ∧ j < b ∧ RowF T wr g R ∧ Pm a b L R ∧ Bx g w wr) (fun _ jv _ => (RowKit.intOf jv).toNat)
  case atStart => exact ⟨a, j, L, rfl, rfl, Nat.le_refl _, by have := HB.out; omega, hg, Pm.refl _ _ _, Bx.refl _ _⟩
  case round =>
    clear hg eb wjb
    obtain ⟨i, j, R, rfl, rfl, hai, hjb, HR, HP0, HX0⟩ := hrel
    have hRl : R.length = N := HP0.len.trans HNN.out
    have HP := Lib.hid HP0
    have HX1 := Lib.hid HX0
    clear HP0 HX0
    by_cases hij : i < j
    · have t1 : decide ((i : Int) < (j : Int)) = true := decide_eq_true (by omega)
      have HPS : Hid (Pm a b L (sw R i j)) := Lib.hid (HP.out.trans (sw_pm R i j (by rw [hRl]; omega) (by rw [hRl]; omega) (by omega) (by omega) (by omega) (by omega)))
      have wi1 : IntKind.i64.wrap ((i : Int) + 1) = (i : Int) + 1 := IntWalk.i64_in _ (by omega)
      obtain ⟨j', rfl⟩ : ∃ j', j = j' + 1 := ⟨j - 1, by omega⟩
      have wj1 : IntKind.i64.wrap (j' : Int) = (j' : Int) := IntWalk.i64_in _ (by omega)
      have i0 : (i : Int) < N := by omega
      have i1 : (j' : Int) + 1 < N := by omega
      have i2 : (0 : Int) ≤ (i : Int) := by omega
      have i3 : (0 : Int) ≤ (j' : Int) + 1 := by omega
      obtain ⟨x, hx⟩ : ∃ x, R.getD i 0 = x := ⟨_, rfl⟩
      obtain ⟨y, hy⟩ : ∃ y, R.getD (j' + 1) 0 = y := ⟨_, rfl⟩
      obtain ⟨d1, d2, d3, d4, d5, d6, d7, d8, d9, d10, d11, d12, HRd⟩ := swp_ctx HR i (j' + 1) (by rw [hRl]; omega) (by rw [hRl]; omega) hx hy
      have HXd := Lib.hid (bx_swp HX1.out i (j' + 1) (.float .f64 y) (.float .f64 x))
      clear hx hy
      clear HR
      go_wp2_with fail
      go_region
      all_goals
        go_wp2_with fail
        go_roundw
        case rel => exact ⟨i + 1, j', _, by go_num, rfl, by omega, by omega, HRd.out, HPS.out, HXd.out⟩
        case measure => simp [RowKit.intOf] <;> omega
    · have t1 : decide ((i : Int) < (j : Int)) = false := decide_eq_false (by omega)
      have HFIN : Hid (Tn T g a b L (fun _ => True) w wr) := Lib.hid ⟨R, HR, HP.out, trivial, HX1.out⟩
      clear HR
      go_wp2_with fail
      first
        | (go_end0; exact ⟨rfl, HFIN.out⟩)
        | exact bodyPost_ret (results_none rfl _ _ _) rfl ⟨rfl, HFIN.out⟩
end Go.Proofs.YtedllapajgcfeaaGreatDoor
