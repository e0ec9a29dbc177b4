/-
  slices.insertionSortCmpFunc of floats by tally.Compare, from a to b: walked.
-/
import Derived.Test.YtedllapajgcfeaaGreatDoorIns
import Derived.Test.YtedllapajgcfeaaGreatDoorPm
namespace Go.Proofs.YtedllapajgcfeaaGreatDoor
set_option linter.unusedVariables false
set_option linter.unusedSimpArgs false
open Go.RowKit Go.Proofs.YtedllapajgcfeaaGreatDoorW.PrintWords

theorem cp_neg (x y : Nat) : cp x y < 0 ↔ rk x < rk y := by
  rw [cp_rk]
  rcases c3_cases (rk x) (rk y) with ⟨e, h⟩ | ⟨e, h⟩ | ⟨e, h⟩ <;> rw [e] <;> constructor <;> intro <;> omega
theorem RowF.fr {T : List Value} {w w' : World} {g : Nat} {l : List Nat} (h : RowF T w g l) (hb : Below w.heap.size w w') : Bx g w w' := (Bx.refl g w).call (blk_lt h) hb
theorem bx_bthen {g : Nat} {w W0 w3 : World} (h : Bx g w W0) (hg : g < w.heap.size) (hb : Below W0.heap.size W0 w3) : Bx g w w3 := h.call hg hb
/-- The row was turned from a to b, and Q holds of what it is now. -/
def Tn (T : List Value) (g a b : Nat) (L : List Nat) (Q : List Nat → Prop) (w w' : World) : Prop := ∃ M, RowF T w' g M ∧ Pm a b L M ∧ Q M ∧ Bx g w w'
set_option maxRecDepth 100000 in
set_option maxHeartbeats 6400000 in
theorem ins_ab (T : List Value) (g cap a b : Nat) (L : List Nat) (hL : L.length ≤ 1000) (h64 : Fin64 L) (hab : a ≤ b) (hbl : b ≤ L.length) (w : World) (hg : RowF T w g L) :
    Calls Tryz.prog 85 #[.slice (some ⟨g, 0, none⟩) L.length cap, .int .i64 a, .int .i64 b, .func (.func 9) #[] #[]] w fun e w' => e = .returned (.tuple #[]) ∧ Tn T g a b L (So a b) w w' := by
  have HG := Lib.hid (blk_lt hg)
  have wa : IntKind.i64.wrap ((a : Int) + 1) = (a : Int) + 1 := IntWalk.i64_in _ (by omega)
  go_enter Tryz.func85, Tryz.ntmps85
  go_wp2_with fail
  go_loopw [8] (fun iv wr => ∃ (k : Nat) (R : List Nat), a ≤ k ∧ (k + 1 ≤ b ∨ k = a) ∧ iv = .int .i64 ((k : Int) + 1) ∧ RowF T wr g R ∧ Pm a b L R ∧ So a (k + 1) R ∧ Bx g w wr) (fun iv _ => b - (RowKit.intOf iv).toNat)
  case atStart => exact ⟨a, L, Nat.le_refl _, Or.inr rfl, rfl, hg, Pm.refl _ _ _, So.nil _ _ _ (Nat.le_refl _), Bx.refl _ _⟩
  case round =>
    obtain ⟨k, R, hak, hk, rfl, HR, HP, HS, HX⟩ := hrel
    by_cases hlt : k + 1 < b
    · have i1 : decide ((k : Int) + 1 < (b : Int)) = true := decide_eq_true (by omega)
      have wk : IntKind.i64.wrap ((k : Int) + 1 + 1) = (k : Int) + 1 + 1 := IntWalk.i64_in _ (by omega)
      go_wp2_with fail
      go_loopw [9] (fun jv wr => ∃ (j : Nat) (R : List Nat), a ≤ j ∧ j ≤ k + 1 ∧ jv = .int .i64 j ∧ RowF T wr g R ∧ Pm a b L R ∧ Sb a (k + 2) j R ∧ Bx g w wr) (fun jv _ => (RowKit.intOf jv).toNat)
      case atStart => exact ⟨k + 1, R, by omega, Nat.le_refl _, by simp, HR, HP, HS.sb, HX⟩
      case round =>
        clear HR HP HS HX
        obtain ⟨j, R, haj, hj, rfl, HR0, HP0, HS0, HX0⟩ := hrel
        rcases Nat.eq_or_lt_of_le haj with h0 | h0
        · subst h0
          have g0 : decide ((a : Int) < (a : Int)) = false := decide_eq_false (by omega)
          have HR1 := Lib.hid HR0
          have HX1 := Lib.hid HX0
          clear HR0 HX0
          go_wp2_with fail
          go_quiet (fail)
          go_wp2_with fail
          go_roundw
          case rel => exact ⟨k + 1, R, by omega, Or.inl (by omega), by go_num, HR1.out, HP0, HS0.top, HX1.out.drewN _⟩
          case measure => simp [RowKit.intOf] <;> omega
        · obtain ⟨m, rfl⟩ : ∃ m, j = m + 1 := ⟨j - 1, by omega⟩
          obtain ⟨W0, hW0, HR⟩ : ∃ z, z = _ ∧ RowF T z g R := ⟨_, rfl, HR0⟩
          subst hW0
          have hRl : R.length = L.length := HP0.len
          have hm : m + 1 < L.length := by omega
          have ca := HR.cell (m + 1) (by rw [hRl]; omega)
          have cb := HR.cell m (by rw [hRl]; omega)
          have HC : Hid (∀ z, Below W0.heap.size W0 z → z.cell? ⟨g, m + 1, none⟩ = some (.float .f64 (R.getD (m + 1) 0)) ∧ z.cell? ⟨g, m, none⟩ = some (.float .f64 (R.getD m 0))) := Lib.hid fun z hz => ⟨(HR.below hz).cell (m + 1) (by rw [hRl]; omega), (HR.below hz).cell m (by rw [hRl]; omega)⟩
          have i2 : (m : Int) + 1 < L.length := by omega
          have i3 : (m : Int) < L.length := by omega
          have i4 : (0 : Int) ≤ (m : Int) + 1 := by omega
          have i5 : (0 : Int) ≤ (m : Int) := by omega
          have i6 : decide ((a : Int) < (m : Int) + 1) = true := decide_eq_true (by omega)
          have w1 : IntKind.i64.wrap ((m : Int) + 1) = (m : Int) + 1 := IntWalk.i64_in _ (by omega)
          have w2 : IntKind.i64.wrap (m : Int) = (m : Int) := IntWalk.i64_in _ (by omega)
          have h64R := HP0.fin h64
          have ha := h64R.getD (m + 1)
          have hb := h64R.getD m
          have HLT := Lib.hid (cp_neg (R.getD (m + 1) 0) (R.getD m 0))
          have HSW : Hid (sw R (m + 1) m = (R.set (m + 1) (R.getD m 0)).set m (R.getD (m + 1) 0)) := Lib.hid rfl
          have HR1 := Lib.hid HR
          have HX1 := Lib.hid HX0
          have HPH := Lib.hid (And.intro HP0 HS0)
          have HST : Hid (rk (R.getD (m + 1) 0) < rk (R.getD m 0) → Sb a (k + 2) m (sw R (m + 1) m)) := Lib.hid (fun h => HS0.step (by omega) (by omega) (by rw [hRl]; omega) h)
          have HSE : Hid (¬ rk (R.getD (m + 1) 0) < rk (R.getD m 0) → So a (k + 2) R) := Lib.hid (fun h => HS0.stop (by omega) (by omega) (by omega))
          clear HR HR0 HX0 h64R HP0 HS0
          generalize R.getD (m + 1) 0 = x at *
          generalize R.getD m 0 = y at *
          have HCMP := Lib.hid (fun z => compare_any x y ha hb z)
          generalize cp x y = c at HLT HCMP
          clear ha hb
          by_cases hc : c < 0
          · have dc : decide (c < 0) = true := decide_eq_true hc
            have HCL := Lib.hid (HST.out (HLT.out.1 hc))
            clear hc HST HSE
            go_wp2_with fail
            go_region_held3 (fun z => Below W0.heap.size W0 z ∧ z.cell? ⟨g, m + 1, none⟩ = some (.float .f64 x) ∧ z.cell? ⟨g, m, none⟩ = some (.float .f64 y)) ((refine ⟨?_, HC.out _ ?_⟩ <;> (repeat (first | (with_reducible exact Below.refl _ _) | (with_reducible refine Below.drew ?_) | (with_reducible refine bl_drewN ?_ _) | ((with_reducible apply bthen); rotate_left; assumption))))) ((go_at_call 9; (with_reducible refine (HCMP.out _).mono ?_); rintro e w3 ⟨rfl, B3⟩))
            all_goals
              go_wp2_with fail
              have hS := ‹Below W0.heap.size W0 w3 ∧ _›
              have hR3 := HR1.out.below hS.1
              have hRd : RowF T w3.drew g R := hR3
              have hRa : RowF T (w3.drew.setCell ⟨g, m + 1, none⟩ (.float .f64 y)) g (R.set (m + 1) y) := hRd.put (m + 1) y (by rw [hRl]; omega)
              have hRb : RowF T (w3.drew.setCell ⟨g, m, none⟩ (.float .f64 x)) g (R.set m x) := hRd.put m x (by rw [hRl]; omega)
              have d1 : w3.drew.cell? ⟨g, m + 1, none⟩ = some (.float .f64 x) := hS.2.1
              have d0 : w3.drew.cell? ⟨g, m, none⟩ = some (.float .f64 y) := hS.2.2
              have f1 := blk_frozen hRd (m + 1)
              have f0 := blk_frozen hRd m
              have fa := blk_frozen hRa m
              have fb := blk_frozen hRb (m + 1)
              have da := hRa.cell m (by simp; omega)
              have db := hRb.cell (m + 1) (by simp; omega)
              have g1 := blk_frozen hR3 (m + 1)
              have g0 := blk_frozen hR3 m
              have HRd := Lib.hid hRd
              clear hR3 hRd hRa hRb
              go_region_with (fail)
              all_goals
                go_wp2_with fail
                exact ⟨⟨m, sw R (m + 1) m, by omega, by omega, rfl, by rw [HSW.out]; exact (HRd.out.put (m + 1) y (by rw [hRl]; omega)).put m x (by simp; omega), HPH.out.1.trans (sw_pm R (m + 1) m (by omega) (by omega) (by omega) (by omega) (by omega) (by omega)), HCL.out, (((HX1.out.call HG.out hS.1).set (m + 1) _).set m _).drew⟩, by simp [RowKit.intOf] <;> omega⟩
          · have dc : decide (c < 0) = false := decide_eq_false hc
            have HCL := Lib.hid (HSE.out (fun h => hc (HLT.out.2 h)))
            clear hc HST HSE
            go_wp2_with fail
            go_region_held3 (fun z => Below W0.heap.size W0 z ∧ z.cell? ⟨g, m + 1, none⟩ = some (.float .f64 x) ∧ z.cell? ⟨g, m, none⟩ = some (.float .f64 y)) ((refine ⟨?_, HC.out _ ?_⟩ <;> (repeat (first | (with_reducible exact Below.refl _ _) | (with_reducible refine Below.drew ?_) | (with_reducible refine bl_drewN ?_ _) | ((with_reducible apply bthen); rotate_left; assumption))))) ((go_at_call 9; (with_reducible refine (HCMP.out _).mono ?_); rintro e w3 ⟨rfl, B3⟩))
            all_goals
              go_wp2_with fail
              have hS := ‹Below W0.heap.size W0 w3 ∧ _›
              exact ⟨⟨k + 1, R, by omega, Or.inl (by omega), by go_num, HR1.out.below hS.1, HPH.out.1, HCL.out, HX1.out.call HG.out hS.1⟩, by simp [RowKit.intOf] <;> omega⟩
    · have i1 : decide ((k : Int) + 1 < (b : Int)) = false := decide_eq_false (by omega)
      have HFIN : Hid (Tn T g a b L (So a b) w wr) := Lib.hid ⟨R, HR, HP, HS.le (Nat.le_refl _) (by omega), HX⟩
      clear HR HX HP HS
      go_wp2_with fail
      first
        | (go_end0; exact ⟨rfl, HFIN.out⟩)
        | exact bodyPost_ret (results_none rfl _ _ _) rfl ⟨rfl, HFIN.out⟩
end Go.Proofs.YtedllapajgcfeaaGreatDoor
