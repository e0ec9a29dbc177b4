/-
  slices.partialInsertionSortCmpFunc of floats by tally.Compare: walked.
-/
import Derived.Test.YtedllapajgcfeaaGreatDoorPar
namespace Go.Proofs.YtedllapajgcfeaaGreatDoor
set_option linter.unusedVariables false
set_option linter.unusedSimpArgs false
open Go.RowKit Go.Proofs.YtedllapajgcfeaaGreatDoorW.PrintWords

theorem So.more {a i m : Nat} {R : List Nat} (h : So a i R) (hm : i = m + 1) (ha : a ≤ m) (hl : rk (R.getD m 0) ≤ rk (R.getD i 0)) : So a (i + 1) R := by
  intro p q h1 h2 h3
  by_cases c : q = i
  · subst c
    by_cases d : p = m
    · subst d; exact hl
    · exact Int.le_trans (h p m h1 (by omega) (by omega)) hl
  · exact h p q h1 h2 (by omega)
theorem So.swap {a i p q : Nat} {R : List Nat} (h : So a i R) (hp : p < R.length) (hq : q < R.length) (h1 : i ≤ p) (h2 : i ≤ q) : So a i (sw R p q) :=
  h.of_out fun k k1 k2 => by rw [sw_at _ _ _ _ hp hq, if_neg (by omega), if_neg (by omega)]
def PinOut (T : List Value) (g a b : Nat) (L : List Nat) (w : World) (e : Ending) (w' : World) : Prop := ∃ bb : Bool, e = .returned (.bool bb) ∧ Tn T g a b L (fun M => bb = true → So a b M) w w'
set_option maxRecDepth 100000 in
set_option maxHeartbeats 12800000 in
theorem pin_any (T : List Value) (g cap a b N : Nat) (L : List Nat) (hN : L.length = N) (hL : N ≤ 1000) (h64 : Fin64 L) (hab : a < b) (hbl : b ≤ N) (hlo : Lo a b L) (w : World) (hg : RowF T w g L) :
    Calls Tryz.prog 90 #[.slice (some ⟨g, 0, none⟩) N cap, .int .i64 a, .int .i64 b, .func (.func 9) #[] #[]] w (PinOut T g a b L w) := by
  have HG := Lib.hid (blk_lt hg)
  have HNN := Lib.hid hN
  have HLO := Lib.hid hlo
  have wa : IntKind.i64.wrap ((a : Int) + 1) = (a : Int) + 1 := IntWalk.i64_in _ (by omega)
  have wba : IntKind.i64.wrap ((b : Int) - (a : Int)) = (b : Int) - (a : Int) := IntWalk.i64_in _ (by omega)
  clear hN hlo
  go_enter Tryz.func90, Tryz.ntmps90
  go_wp2_with fail
  go_loopw [9, 10] (fun iv sv wr => ∃ (i s : Nat) (R : List Nat), iv = .int .i64 i ∧ sv = .int .i64 s ∧ a + 1 ≤ i ∧ i ≤ b ∧ s ≤ 5 ∧ So a i R ∧ RowF T wr g R ∧ Pm a b L R ∧ Bx g w wr) (fun _ sv _ => (5 - RowKit.intOf sv).toNat)
  case atStart => exact ⟨a + 1, 0, L, by go_num, rfl, Nat.le_refl _, by omega, by omega, So.nil _ _ _ (Nat.le_refl _), hg, Pm.refl _ _ _, Bx.refl _ _⟩
  case round =>
    clear hg
    obtain ⟨i, s, R, rfl, rfl, hai, hib, hs, HS0, HR0, HP0, HX0⟩ := hrel
    obtain ⟨W0, hW0, HR⟩ : ∃ z, z = _ ∧ RowF T z g R := ⟨_, rfl, HR0⟩
    subst hW0
    have HHH := Lib.hid (And.intro HS0 (And.intro HR HX0))
    have HP := Lib.hid HP0
    have hRl : R.length = N := HP0.len.trans HNN.out
    clear HS0 HR0 HX0 HP0
    by_cases hs5 : s < 5
    · have ts : decide ((s : Int) < 5) = true := decide_eq_true (by omega)
      have ws : IntKind.i64.wrap ((s : Int) + 1) = (s : Int) + 1 := IntWalk.i64_in _ (by omega)
      clear HR
      go_wp2_with fail
      go_loopw [9] (fun iv wr => ∃ i : Nat, iv = .int .i64 i ∧ a + 1 ≤ i ∧ i ≤ b ∧ So a i R ∧ RowF T wr g R ∧ Bx g w wr) (fun iv _ => N + 1 - (RowKit.intOf iv).toNat)
      case atStart => exact ⟨i, rfl, hai, hib, HHH.out.1, HHH.out.2.1, HHH.out.2.2⟩
      case round =>
        clear HHH hai hib
        obtain ⟨i, rfl, hai, hib, HS0, HR0, HX0⟩ := hrel
        obtain ⟨W0, hW0, HR⟩ : ∃ z, z = _ ∧ RowF T z g R := ⟨_, rfl, HR0⟩
        subst hW0
        obtain ⟨m, hm⟩ : ∃ m : Nat, i = m + 1 := ⟨i - 1, by omega⟩
        have em : (i : Int) - 1 = (m : Int) := by omega
        have wi0 : IntKind.i64.wrap (i : Int) = (i : Int) := IntWalk.i64_in _ (by omega)
        have wm0 : IntKind.i64.wrap (m : Int) = (m : Int) := IntWalk.i64_in _ (by omega)
        have wi1 : IntKind.i64.wrap ((i : Int) + 1) = (i : Int) + 1 := IntWalk.i64_in _ (by omega)
        have iv0 : (0 : Int) ≤ (i : Int) := by omega
        have mv0 : (0 : Int) ≤ (m : Int) := by omega
        have h64R : Fin64 R := HP.out.fin h64
        have HXH := Lib.hid HX0
        have HSH := Lib.hid HS0
        have HM := Lib.hid hm
        have hmi : m < i := by omega
        have ham : a ≤ m := by omega
        clear HR0 HX0 HS0 hm
        go_upto_region 5 with (fail)
        go_cut [36] (fun cv wx => ∃ bb : Bool, cv = .bool bb ∧ Hid (Scan T g w wx R (i < b) (rk (R.getD m 0) ≤ rk (R.getD i 0)) bb))
        case first =>
          by_cases hij : i < b
          · have t2 : decide ((i : Int) < (b : Int)) = true := decide_eq_true (by omega)
            have ii0 : (i : Int) < N := by omega
            have ij0 : (m : Int) < N := by omega
            obtain ⟨x, y, c, ca, cb, HC, HCMP, HQ⟩ := cmp_ctx HR h64R i m (by rw [hRl]; omega) (by rw [hRl]; omega)
            have HRH := Lib.hid HR
            clear HR h64R
            go_region_held3 (fun z => Below W0.heap.size W0 z ∧ z.cell? ⟨g, i, none⟩ = some (.float .f64 x) ∧ z.cell? ⟨g, m, none⟩ = some (.float .f64 y)) ((refine ⟨?_, HC.out _ ?_⟩ <;> (repeat (first | (with_reducible exact Below.refl _ _) | (with_reducible refine Below.drew ?_) | (with_reducible refine bl_drewN ?_ _) | ((with_reducible apply bthen); rotate_left; assumption))))) ((go_at_call 9; (with_reducible refine (HCMP.out _).mono ?_); rintro e w3 ⟨rfl, B3⟩))
            all_goals
              go_wp2
              have hS := ‹Below W0.heap.size W0 w3 ∧ _›
              go_meet
              case rel =>
                first
                  | exact ⟨decide (c < 0), rfl, Lib.hid (scan_pos (HRH.out.below hS.1) (HXH.out.call HG.out hS.1) hij HQ.out.1)⟩
                  | exact ⟨!decide (c < 0), rfl, Lib.hid (scan_le (HRH.out.below hS.1) (HXH.out.call HG.out hS.1) hij HQ.out.1)⟩
          · have t2 : decide ((i : Int) < (b : Int)) = false := decide_eq_false (by omega)
            have HRH := Lib.hid HR
            clear HR h64R
            go_quiet (fail)
            go_wp2
            go_meet
            case rel => exact ⟨false, rfl, Lib.hid ⟨HRH.out, HXH.out.drewN _, fun hb => Bool.noConfusion hb, fun _ h => hij h.1⟩⟩
        clear HR HXH
        obtain ⟨bb, rfl, HSC⟩ := hcut
        obtain ⟨W1, hW1, HR1⟩ : ∃ z, z = _ ∧ RowF T z g R := ⟨_, rfl, HSC.out.1⟩
        subst hW1
        have HX1 := Lib.hid HSC.out.2.1
        have HSC2 := Lib.hid HSC.out.2.2
        clear HSC
        cases bb
        rotate_left
        · obtain ⟨g1, g2⟩ := HSC2.out.1 rfl
          have hV := Lib.hid (HSH.out.more HM.out ham g2)
          have HRZ := Lib.hid HR1
          clear g2 HR1
          go_wp2_with fail
          go_roundw
          case rel => exact ⟨i + 1, by go_num, by omega, by omega, hV.out, HRZ.out, HX1.out⟩
          case measure => simp [RowKit.intOf] <;> omega
        clear HSC2
        by_cases hib2 : i = b
        · subst hib2
          have HFIN : Hid (PinOut T g a i L w (.returned (.bool true)) W1) := Lib.hid ⟨true, rfl, R, HR1, HP.out, fun _ => HSH.out, HX1.out⟩
          clear HR1 HX1 HSH HP
          go_wp2_with fail
          go_ret
          exact HFIN.out
        · have t4 : ((i : Int) == (b : Int)) = false := beq_eq_false_iff_ne.2 (by omega)
          by_cases h50 : b - a < 50
          · have t5 : decide ((b : Int) - (a : Int) < 50) = true := decide_eq_true (by omega)
            have HFIN : Hid (PinOut T g a b L w (.returned (.bool false)) W1) := Lib.hid ⟨false, rfl, R, HR1, HP.out, fun h => Bool.noConfusion h, HX1.out⟩
            clear HR1 HX1 HSH HP
            go_wp2_with fail
            go_ret
            exact HFIN.out
          · have t5 : decide ((b : Int) - (a : Int) < 50) = false := decide_eq_false (by omega)
            have ii0 : (i : Int) < N := by omega
            have ij0 : (m : Int) < N := by omega
            have HPS : Hid (Pm a b L (sw R i m)) := Lib.hid (HP.out.trans (sw_pm R i m (by rw [hRl]; omega) (by rw [hRl]; omega) (by omega) (by omega) (by omega) (by omega)))
            have HSS : Hid (Sb a (m + 1) m (sw R i m)) := Lib.hid (So.sb (fun p q h1 h2 h3 => by rw [sw_at _ _ _ _ (by rw [hRl]; omega) (by rw [hRl]; omega), sw_at _ _ _ _ (by rw [hRl]; omega) (by rw [hRl]; omega), if_neg (by omega), if_neg (by omega), if_neg (by omega), if_neg (by omega)]; exact HSH.out p q h1 h2 (by omega)))
            obtain ⟨x, hx⟩ : ∃ x, R.getD i 0 = x := ⟨_, rfl⟩
            obtain ⟨y, hy⟩ : ∃ y, R.getD m 0 = y := ⟨_, rfl⟩
            obtain ⟨d1, d2, d3, d4, d5, d6, d7, d8, d9, d10, d11, d12, HRd⟩ := swp_ctx HR1 i m (by rw [hRl]; omega) (by rw [hRl]; omega) hx hy
            have HXd := Lib.hid (bx_swp HX1.out i m (.float .f64 y) (.float .f64 x))
            clear hx hy
            have wia : IntKind.i64.wrap ((i : Int) - (a : Int)) = (i : Int) - (a : Int) := IntWalk.i64_in _ (by omega)
            have wbi : IntKind.i64.wrap ((b : Int) - (i : Int)) = (b : Int) - (i : Int) := IntWalk.i64_in _ (by omega)
            clear HR1 HX1 HSH HP hRl
            go_wp2_with fail
            go_region
            obtain ⟨b6, hb6⟩ : ∃ b6 : Bool, decide ((2 : Int) ≤ (i : Int) - (a : Int)) = b6 := ⟨_, rfl⟩
            go_upto_if 65 with (fail)
            go_cut [] (fun wx => ∃ R : List Nat, Hid (So a i R ∧ RowF T wx g R ∧ Pm a b L R ∧ Bx g w wx))
            case first =>
              cases b6
              rotate_left
              · go_wp2_with fail
                go_loopw [11] (fun jv wr => ∃ (j : Nat) (R : List Nat), jv = .int .i64 j ∧ a ≤ j ∧ j ≤ m ∧ Sb a (m + 1) j R ∧ RowF T wr g R ∧ Pm a b L R ∧ Bx g w wr) (fun jv _ => (RowKit.intOf jv).toNat)
                case atStart => exact ⟨m, _, rfl, ham, Nat.le_refl _, HSS.out, HRd.out, HPS.out, HXd.out⟩
                case round =>
                  clear HSS HRd HPS HXd
                  obtain ⟨j, R, rfl, haj, hjm, HS0, HR0, HP0, HX0⟩ := hrel
                  obtain ⟨W0, hW0, HR⟩ : ∃ z, z = _ ∧ RowF T z g R := ⟨_, rfl, HR0⟩
                  subst hW0
                  have hRl : R.length = N := HP0.len.trans HNN.out
                  by_cases hj0 : j = 0
                  · subst hj0
                    have HA := Lib.hid (show So a i R ∧ RowF T W0 g R ∧ Pm a b L R ∧ Bx g w W0 from ⟨by rw [HM.out]; obtain rfl : a = 0 := (by omega); exact HS0.top, HR, HP0, HX0⟩)
                    clear HS0 HR HR0 HP0 HX0
                    go_wp2_with fail
                    go_meet
                    case rel => exact ⟨R, HA⟩
                  · obtain ⟨n, rfl⟩ : ∃ n, j = n + 1 := ⟨j - 1, by omega⟩
                    have h64R : Fin64 R := HP0.fin h64
                    have t7 : decide ((1 : Int) ≤ (n : Int) + 1) = true := decide_eq_true (by omega)
                    have in0 : (n : Int) < N := by omega
                    have in1 : (n : Int) + 1 < N := by omega
                    have in2 : (0 : Int) ≤ (n : Int) := by omega
                    have in3 : (0 : Int) ≤ (n : Int) + 1 := by omega
                    have wn0 : IntKind.i64.wrap (n : Int) = (n : Int) := IntWalk.i64_in _ (by omega)
                    have wn1 : IntKind.i64.wrap ((n : Int) + 1) = (n : Int) + 1 := IntWalk.i64_in _ (by omega)
                    obtain ⟨x, y, c, ca, cb, HC, HCMP, HQ⟩ := cmp_ctx HR h64R (n + 1) n (by rw [hRl]; omega) (by rw [hRl]; omega)
                    have HRH := Lib.hid HR
                    have HXH := Lib.hid HX0
                    have HST : Hid (rk (R.getD (n + 1) 0) < rk (R.getD n 0) → a ≤ n ∧ Sb a (m + 1) n (sw R (n + 1) n) ∧ Pm a b L (sw R (n + 1) n)) := Lib.hid (fun h => by
                      have han : a ≤ n := by
                        rcases Nat.lt_or_ge n a with h1 | h1
                        · have := (HLO.out.pm HP0 (Nat.le_refl _) (Nat.le_refl _)) n (n + 1) h1 (by omega) (by omega) (by omega)
                          omega
                        · exact h1
                      exact ⟨han, HS0.step han (by omega) (by rw [hRl]; omega) h, HP0.trans (sw_pm R (n + 1) n (by rw [hRl]; omega) (by rw [hRl]; omega) (by omega) (by omega) (by omega) (by omega))⟩)
                    have HSE : Hid (¬ rk (R.getD (n + 1) 0) < rk (R.getD n 0) → So a i R) := Lib.hid (fun h => by
                      rw [HM.out]
                      rcases Nat.lt_or_ge n a with h1 | h1
                      · obtain rfl : a = n + 1 := by omega
                        exact HS0.top
                      · exact HS0.stop h1 (by omega) (by omega))
                    have HPH := Lib.hid HP0
                    clear HS0 HR HR0 HP0 HX0 h64R
                    by_cases hc : c < 0
                    · have dc : decide (c < 0) = true := decide_eq_true hc
                      have HCL := Lib.hid (HST.out (HQ.out.1.1 hc))
                      clear hc HST HSE
                      go_wp2_with fail
                      go_region_held3 (fun z => Below W0.heap.size W0 z ∧ z.cell? ⟨g, n + 1, none⟩ = some (.float .f64 x) ∧ z.cell? ⟨g, n, none⟩ = some (.float .f64 y)) ((refine ⟨?_, HC.out _ ?_⟩ <;> (repeat (first | (with_reducible exact Below.refl _ _) | (with_reducible refine Below.drew ?_) | (with_reducible refine bl_drewN ?_ _) | ((with_reducible apply bthen); rotate_left; assumption))))) ((go_at_call 9; (with_reducible refine (HCMP.out _).mono ?_); rintro e w3 ⟨rfl, B3⟩))
                      all_goals
                        go_wp2_with fail
                        have hS := ‹Below W0.heap.size W0 w3 ∧ _›
                        obtain ⟨d1, d2, d3, d4, d5, d6, d7, d8, d9, d10, d11, d12, HRd⟩ := swp_ctx (HRH.out.below hS.1) (n + 1) n (by rw [hRl]; omega) (by rw [hRl]; omega) HQ.out.2.1 HQ.out.2.2
                        go_region
                        all_goals
                          go_wp2_with fail
                          go_roundw
                          case rel => exact ⟨n, sw R (n + 1) n, rfl, HCL.out.1, by omega, HCL.out.2.1, HRd.out, HCL.out.2.2, bx_swp (HXH.out.call HG.out hS.1) _ _ _ _⟩
                          case measure => simp [RowKit.intOf] <;> omega
                    · have dc : decide (c < 0) = false := decide_eq_false hc
                      have HCL := Lib.hid (HSE.out (fun h => hc (HQ.out.1.2 h)))
                      clear hc HST HSE
                      go_wp2_with fail
                      go_region_held3 (fun z => Below W0.heap.size W0 z ∧ z.cell? ⟨g, n + 1, none⟩ = some (.float .f64 x) ∧ z.cell? ⟨g, n, none⟩ = some (.float .f64 y)) ((refine ⟨?_, HC.out _ ?_⟩ <;> (repeat (first | (with_reducible exact Below.refl _ _) | (with_reducible refine Below.drew ?_) | (with_reducible refine bl_drewN ?_ _) | ((with_reducible apply bthen); rotate_left; assumption))))) ((go_at_call 9; (with_reducible refine (HCMP.out _).mono ?_); rintro e w3 ⟨rfl, B3⟩))
                      all_goals
                        go_wp2_with fail
                        have hS := ‹Below W0.heap.size W0 w3 ∧ _›
                        go_meet
                        case rel => exact ⟨R, Lib.hid ⟨HCL.out, HRH.out.below hS.1, HPH.out, HXH.out.call HG.out hS.1⟩⟩
              · have hia := of_decide_eq_false hb6
                go_wp2_with fail
                go_meet
                case rel => exact ⟨_, Lib.hid ⟨So.nil _ _ _ (by omega), HRd.out, HPS.out, HXd.out⟩⟩
            clear HSS HRd HPS HXd
            obtain ⟨R, HCUT⟩ := hcut
            by_cases hbi : 2 ≤ b - i
            · have t6 : decide ((2 : Int) ≤ (b : Int) - (i : Int)) = true := decide_eq_true (by omega)
              go_wp2_with fail
              go_loopw [12] (fun jv wr => ∃ (j : Nat) (R : List Nat), jv = .int .i64 j ∧ i + 1 ≤ j ∧ j ≤ b ∧ So a i R ∧ RowF T wr g R ∧ Pm a b L R ∧ Bx g w wr) (fun jv _ => N + 1 - (RowKit.intOf jv).toNat)
              case atStart => exact ⟨i + 1, R, by go_num, Nat.le_refl _, by omega, HCUT.out.1, HCUT.out.2.1, HCUT.out.2.2.1, HCUT.out.2.2.2⟩
              case round =>
                clear HCUT
                obtain ⟨j, R, rfl, hij1, hjb, HS0, HR0, HP0, HX0⟩ := hrel
                obtain ⟨W0, hW0, HR⟩ : ∃ z, z = _ ∧ RowF T z g R := ⟨_, rfl, HR0⟩
                subst hW0
                have hRl : R.length = N := HP0.len.trans HNN.out
                by_cases hjl : j < b
                · obtain ⟨n, hn⟩ : ∃ n, j = n + 1 := ⟨j - 1, by omega⟩
                  have en : (j : Int) - 1 = (n : Int) := by omega
                  have h64R : Fin64 R := HP0.fin h64
                  have t7 : decide ((j : Int) < (b : Int)) = true := decide_eq_true (by omega)
                  have hnj : n < j := by omega
                  have hin : i ≤ n := by omega
                  have in0 : (n : Int) < N := by omega
                  have in1 : (j : Int) < N := by omega
                  have in2 : (0 : Int) ≤ (n : Int) := by omega
                  have in3 : (0 : Int) ≤ (j : Int) := by omega
                  have wn0 : IntKind.i64.wrap (n : Int) = (n : Int) := IntWalk.i64_in _ (by omega)
                  have wn1 : IntKind.i64.wrap (j : Int) = (j : Int) := IntWalk.i64_in _ (by omega)
                  have wn2 : IntKind.i64.wrap ((j : Int) + 1) = (j : Int) + 1 := IntWalk.i64_in _ (by omega)
                  obtain ⟨x, y, c, ca, cb, HC, HCMP, HQ⟩ := cmp_ctx HR h64R j n (by rw [hRl]; omega) (by rw [hRl]; omega)
                  have HRH := Lib.hid HR
                  have HXH := Lib.hid HX0
                  have HPH := Lib.hid HP0
                  have HSH2 := Lib.hid HS0
                  have HST := Lib.hid (And.intro (HS0.swap (p := j) (q := n) (by rw [hRl]; omega) (by rw [hRl]; omega) (by omega) hin) (HP0.trans (sw_pm (a := a) (b := b) R j n (by rw [hRl]; omega) (by rw [hRl]; omega) (by omega) (by omega) (by omega) (by omega))))
                  clear HS0 HR HR0 HP0 HX0 h64R hn
                  by_cases hc : c < 0
                  · have dc : decide (c < 0) = true := decide_eq_true hc
                    clear hc
                    go_wp2_with fail
                    go_region_held3 (fun z => Below W0.heap.size W0 z ∧ z.cell? ⟨g, j, none⟩ = some (.float .f64 x) ∧ z.cell? ⟨g, n, none⟩ = some (.float .f64 y)) ((refine ⟨?_, HC.out _ ?_⟩ <;> (repeat (first | (with_reducible exact Below.refl _ _) | (with_reducible refine Below.drew ?_) | (with_reducible refine bl_drewN ?_ _) | ((with_reducible apply bthen); rotate_left; assumption))))) ((go_at_call 9; (with_reducible refine (HCMP.out _).mono ?_); rintro e w3 ⟨rfl, B3⟩))
                    all_goals
                      go_wp2_with fail
                      have hS := ‹Below W0.heap.size W0 w3 ∧ _›
                      obtain ⟨d1, d2, d3, d4, d5, d6, d7, d8, d9, d10, d11, d12, HRd⟩ := swp_ctx (HRH.out.below hS.1) j n (by rw [hRl]; omega) (by rw [hRl]; omega) HQ.out.2.1 HQ.out.2.2
                      go_region
                      all_goals
                        go_wp2_with fail
                        exact ⟨⟨j + 1, sw R j n, by go_num, by omega, by omega, HST.out.1, HRd.out, HST.out.2, bx_swp (HXH.out.call HG.out hS.1) _ _ _ _⟩, by simp [RowKit.intOf] <;> omega⟩
                  · have dc : decide (c < 0) = false := decide_eq_false hc
                    clear hc
                    go_wp2_with fail
                    go_region_held3 (fun z => Below W0.heap.size W0 z ∧ z.cell? ⟨g, j, none⟩ = some (.float .f64 x) ∧ z.cell? ⟨g, n, none⟩ = some (.float .f64 y)) ((refine ⟨?_, HC.out _ ?_⟩ <;> (repeat (first | (with_reducible exact Below.refl _ _) | (with_reducible refine Below.drew ?_) | (with_reducible refine bl_drewN ?_ _) | ((with_reducible apply bthen); rotate_left; assumption))))) ((go_at_call 9; (with_reducible refine (HCMP.out _).mono ?_); rintro e w3 ⟨rfl, B3⟩))
                    all_goals
                      go_wp2_with fail
                      have hS := ‹Below W0.heap.size W0 w3 ∧ _›
                      go_roundw
                      case rel => exact ⟨i, s + 1, R, rfl, by go_num, hai, hib, by omega, HSH2.out, HRH.out.below hS.1, HPH.out, HXH.out.call HG.out hS.1⟩
                      case measure => simp [RowKit.intOf] <;> omega
                · have t7 : decide ((j : Int) < (b : Int)) = false := decide_eq_false (by omega)
                  have HA := Lib.hid (show So a i R ∧ RowF T W0 g R ∧ Pm a b L R ∧ Bx g w W0 from ⟨HS0, HR, HP0, HX0⟩)
                  clear HS0 HR HR0 HP0 HX0
                  go_wp2_with fail
                  go_roundw
                  case rel => exact ⟨i, s + 1, R, rfl, by go_num, hai, hib, by omega, HA.out⟩
                  case measure => simp [RowKit.intOf] <;> omega
            · have t6 : decide ((2 : Int) ≤ (b : Int) - (i : Int)) = false := decide_eq_false (by omega)
              go_wp2_with fail
              go_roundw
              case rel => exact ⟨i, s + 1, R, rfl, by go_num, hai, hib, by omega, HCUT.out⟩
              case measure => simp [RowKit.intOf] <;> omega
    · have ts : decide ((s : Int) < 5) = false := decide_eq_false (by omega)
      have HFIN : Hid (PinOut T g a b L w (.returned (.bool false)) W0) := Lib.hid ⟨false, rfl, R, HR, HP.out, fun h => Bool.noConfusion h, HHH.out.2.2⟩
      clear HR HHH HP
      go_wp2_with fail
      go_ret
      exact HFIN.out
end Go.Proofs.YtedllapajgcfeaaGreatDoor
