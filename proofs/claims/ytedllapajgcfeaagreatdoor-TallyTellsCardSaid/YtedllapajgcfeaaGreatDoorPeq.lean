/-
  slices.partitionEqualCmpFunc of floats by tally.Compare: walked.
-/
import Derived.Test.YtedllapajgcfeaaGreatDoorPar
namespace Go.Proofs.YtedllapajgcfeaaGreatDoor
set_option linter.unusedVariables false
set_option linter.unusedSimpArgs false
open Go.RowKit Go.Proofs.YtedllapajgcfeaaGreatDoorW.PrintWords

/-- A partition into what is the pivot's like and what is behind it, under way. -/
structure Pe (a b i e : Nat) (R : List Nat) : Prop where
  ai : a + 1 ≤ i
  ie : i ≤ e
  eb : e ≤ b
  lo : ∀ k, a + 1 ≤ k → k < i → rk (R.getD k 0) ≤ rk (R.getD a 0)
  hi : ∀ k, e ≤ k → k < b → rk (R.getD a 0) < rk (R.getD k 0)
theorem Pe.up {a b i e : Nat} {R : List Nat} (h : Pe a b i e R) (hi : i < e) (hl : rk (R.getD i 0) ≤ rk (R.getD a 0)) : Pe a b (i + 1) e R :=
  ⟨by have := h.ai; omega, hi, h.eb, fun k h1 h2 => by by_cases c : k = i; (· subst c; exact hl); (· exact h.lo k h1 (by omega)), h.hi⟩
theorem Pe.down {a b i e : Nat} {R : List Nat} (h : Pe a b i (e + 1) R) (hi : i ≤ e) (hl : rk (R.getD a 0) < rk (R.getD e 0)) : Pe a b i e R :=
  ⟨h.ai, hi, by have := h.eb; omega, h.lo, fun k h1 h2 => by by_cases c : k = e; (· subst c; omega); (· exact h.hi k (by omega) h2)⟩
theorem Pe.swap {a b i e : Nat} {R : List Nat} (h : Pe a b i (e + 1) R) (hi : i ≤ e) (hb : b ≤ R.length) (h1 : rk (R.getD a 0) < rk (R.getD i 0)) (h2 : rk (R.getD e 0) ≤ rk (R.getD a 0)) : (Pe a b (i + 1) e (sw R i e) ∧ (sw R i e).getD a 0 = R.getD a 0) ∧ i < e := by
  have hlt : i < e := by
    rcases Nat.eq_or_lt_of_le hi with h3 | h3
    · subst h3; omega
    · exact h3
  have ha := h.ai
  have he := h.eb
  have s := fun k => sw_at R i e k (by omega) (by omega)
  have sa : (sw R i e).getD a 0 = R.getD a 0 := by rw [s a, if_neg (show ¬ a = e by omega), if_neg (show ¬ a = i by omega)]
  refine ⟨⟨⟨by omega, hlt, by omega, fun k k1 k2 => ?_, fun k k1 k2 => ?_⟩, sa⟩, hlt⟩
  · rw [sa, s k, if_neg (show ¬ k = e by omega)]
    by_cases c : k = i
    · rw [if_pos c]; exact h2
    · rw [if_neg c]; exact h.lo k k1 (by omega)
  · rw [sa, s k]
    by_cases c : k = e
    · rw [if_pos c]; omega
    · rw [if_neg c, if_neg (by omega)]; exact h.hi k (by omega) k2
def EqOut (T : List Value) (g a b : Nat) (v : Int) (L : List Nat) (w : World) (e : Ending) (w' : World) : Prop := ∃ m : Nat, e = .returned (.int .i64 m) ∧ a < m ∧ m ≤ b ∧ Tn T g a b L (fun M => (∀ k, a ≤ k → k < m → rk (M.getD k 0) ≤ v) ∧ ∀ k, m ≤ k → k < b → v < rk (M.getD k 0)) w w'
set_option maxRecDepth 100000 in
set_option maxHeartbeats 12800000 in
theorem peq_any (T : List Value) (g cap a b pv N : Nat) (L : List Nat) (hN : L.length = N) (hL : N ≤ 1000) (h64 : Fin64 L) (hap : a ≤ pv) (hpb : pv < b) (hbl : b ≤ N) (w : World) (hg : RowF T w g L) :
    Calls Tryz.prog 91 #[.slice (some ⟨g, 0, none⟩) N cap, .int .i64 a, .int .i64 b, .int .i64 pv, .func (.func 9) #[] #[]] w (EqOut T g a b (rk (L.getD pv 0)) L w) := by
  have HG := Lib.hid (blk_lt hg)
  have HNN := Lib.hid hN
  have iua : (a : Int) < N := by omega
  have iva : (0 : Int) ≤ (a : Int) := by omega
  have iwa : IntKind.i64.wrap (a : Int) = (a : Int) := IntWalk.i64_in _ (by omega)
  have iup : (pv : Int) < N := by omega
  have ivp : (0 : Int) ≤ (pv : Int) := by omega
  have iwp : IntKind.i64.wrap (pv : Int) = (pv : Int) := IntWalk.i64_in _ (by omega)
  have wa : IntKind.i64.wrap ((a : Int) + 1) = (a : Int) + 1 := IntWalk.i64_in _ (by omega)
  obtain ⟨j, hjb⟩ : ∃ j : Nat, b = j + 1 := ⟨b - 1, by omega⟩
  have eb : (b : Int) - 1 = (j : Int) := by omega
  have wjb : IntKind.i64.wrap (j : Int) = (j : Int) := IntWalk.i64_in _ (by omega)
  have HB := Lib.hid hjb
  clear hjb
  have HV0 : Hid (rk ((sw L a pv).getD a 0) = rk (L.getD pv 0)) := Lib.hid (by
    rw [sw_at _ _ _ _ (by omega) (by omega)]
    by_cases c : a = pv
    · rw [if_pos c, c]
    · rw [if_neg c, if_pos rfl])
  obtain ⟨x, hx⟩ : ∃ x, L.getD a 0 = x := ⟨_, rfl⟩
  obtain ⟨y, hy⟩ : ∃ y, L.getD pv 0 = y := ⟨_, rfl⟩
  obtain ⟨d1, d2, d3, d4, d5, d6, d7, d8, d9, d10, d11, d12, HRd⟩ := swp_ctx hg a pv (by omega) (by omega) hx hy
  have HP0 := Lib.hid (sw_pm (a := a) (b := b) L a pv (by omega) (by omega) (by omega) (by omega) (by omega) (by omega))
  have HX0 := Lib.hid (bx_swp (Bx.refl g w) a pv (.float .f64 y) (.float .f64 x))
  generalize rk (L.getD pv 0) = v at HV0 ⊢
  clear hx hy hg hN
  go_enter Tryz.func91, Tryz.ntmps91
  go_wp2_with fail
  go_region
  go_wp2_with fail
  go_loopw [11, 12] (fun iv jv wr => ∃ (i j : Nat) (R : List Nat), iv = .int .i64 i ∧ jv = .int .i64 j ∧ (Pe a b i (j + 1) R ∧ Hid (rk (R.getD a 0) = v)) ∧ RowF T wr g R ∧ Pm a b L R ∧ Bx g w wr) (fun iv jv _ => (RowKit.intOf jv + 1 - RowKit.intOf iv).toNat)
  case atStart => exact ⟨a + 1, j, _, by go_num, rfl, ⟨⟨Nat.le_refl _, by have := HB.out; omega, by have := HB.out; omega, fun k h1 h2 => by omega, fun k h1 h2 => by have := HB.out; omega⟩, HV0⟩, HRd.out, HP0.out, HX0.out⟩
  case round =>
    clear HV0 HRd HP0 HX0 eb wjb
    obtain ⟨i, j, R, rfl, rfl, ⟨HV, HVA⟩, HR0, HP0, HX0⟩ := hrel
    obtain ⟨W0, hW0, HR⟩ : ∃ z, z = _ ∧ RowF T z g R := ⟨_, rfl, HR0⟩
    subst hW0
    obtain ⟨i0, hi0⟩ : ∃ i0 : Nat, i0 = i := ⟨_, rfl⟩
    obtain ⟨j0, hj0⟩ : ∃ j0 : Nat, j0 = j := ⟨_, rfl⟩
    have HIJ := Lib.hid (And.intro hi0 hj0)
    have hle : i0 ≤ i ∧ j ≤ j0 ∧ j0 ≤ N := ⟨by omega, by omega, by have := HV.eb; omega⟩
    have HHH := Lib.hid (And.intro HV (And.intro HR HX0))
    have HP := Lib.hid HP0
    have hRl : R.length = N := HP0.len.trans HNN.out
    clear hi0 hj0 HV HR0 HR HX0 HP0
    go_wp2_with fail
    go_loopw [11] (fun iv wr => ∃ i : Nat, iv = .int .i64 i ∧ i0 ≤ i ∧ Pe a b i (j + 1) R ∧ RowF T wr g R ∧ Bx g w wr) (fun iv _ => N + 1 - (RowKit.intOf iv).toNat)
    case atStart => exact ⟨i, rfl, hle.1, HHH.out.1, HHH.out.2.1, HHH.out.2.2⟩
    case round =>
      obtain ⟨i, rfl, hi4, HV, HR0, HX0⟩ := hrel
      obtain ⟨W0, hW0, HR⟩ : ∃ z, z = _ ∧ RowF T z g R := ⟨_, rfl, HR0⟩
      subst hW0
      have HXH := Lib.hid HX0
      have HVH := Lib.hid HV
      have hai := HV.ai
      have hie := HV.ie
      have heb := HV.eb
      have h64R : Fin64 R := HP.out.fin h64
      have wi0 : IntKind.i64.wrap (i : Int) = (i : Int) := IntWalk.i64_in _ (by omega)
      have wi1 : IntKind.i64.wrap ((i : Int) + 1) = (i : Int) + 1 := IntWalk.i64_in _ (by omega)
      have iv0 : (0 : Int) ≤ (i : Int) := by omega
      have jv0 : (0 : Int) ≤ (j : Int) := by omega
      clear HR0 HX0 HV
      go_upto_region 3 with (fail)
      go_cut [47] (fun cv wx => ∃ bb : Bool, cv = .bool bb ∧ Hid (Scan T g w wx R (i ≤ j) (rk (R.getD i 0) ≤ rk (R.getD a 0)) bb))
      case first =>
        by_cases hij : i ≤ j
        · have t2 : decide ((i : Int) ≤ (j : Int)) = true := decide_eq_true (by omega)
          have ii0 : (i : Int) < N := by omega
          have ij0 : (j : Int) < N := by omega
          obtain ⟨x, y, c, ca, cb, HC, HCMP, HQ⟩ := cmp_ctx HR h64R a i (by rw [hRl]; omega) (by rw [hRl]; omega)
          have HRH := Lib.hid HR
          clear HR h64R
          go_region_held3 (fun z => Below W0.heap.size W0 z ∧ z.cell? ⟨g, a, none⟩ = some (.float .f64 x) ∧ z.cell? ⟨g, i, none⟩ = some (.float .f64 y)) ((refine ⟨?_, HC.out _ ?_⟩ <;> (repeat (first | (with_reducible exact Below.refl _ _) | (with_reducible refine Below.drew ?_) | (with_reducible refine bl_drewN ?_ _) | ((with_reducible apply bthen); rotate_left; assumption))))) ((go_at_call 9; (with_reducible refine (HCMP.out _).mono ?_); rintro e w3 ⟨rfl, B3⟩))
          all_goals
            go_wp2
            have hS := ‹Below W0.heap.size W0 w3 ∧ _›
            go_meet
            case rel =>
              first
                | exact ⟨decide (c < 0), rfl, Lib.hid (scan_pos (HRH.out.below hS.1) (HXH.out.call HG.out hS.1) hij HQ.out.1)⟩
                | exact ⟨!decide (c < 0), rfl, Lib.hid (scan_le (HRH.out.below hS.1) (HXH.out.call HG.out hS.1) hij HQ.out.1)⟩
        · have t2 : decide ((i : Int) ≤ (j : Int)) = false := decide_eq_false (by omega)
          have HRH := Lib.hid HR
          clear HR h64R
          go_quiet (fail)
          go_wp2
          go_meet
          case rel => exact ⟨false, rfl, Lib.hid ⟨HRH.out, HXH.out.drewN _, fun hb => Bool.noConfusion hb, fun _ h => hij h.1⟩⟩
      clear HR HXH
      obtain ⟨bb, rfl, HSC⟩ := hcut
      obtain ⟨W1, hW1, HR1⟩ : ∃ z, z = _ ∧ RowF T z g R := ⟨_, rfl, HSC.out.1⟩
      subst hW1
      have HX1 := Lib.hid HSC.out.2.1
      have HSC2 := Lib.hid HSC.out.2.2
      clear HSC
      cases bb
      rotate_left
      · obtain ⟨g1, g2⟩ := HSC2.out.1 rfl
        have hV := Lib.hid (HVH.out.up (by omega) g2)
        have HRZ := Lib.hid HR1
        clear g2 HR1
        go_wp2_with fail
        go_roundw
        case rel => exact ⟨i + 1, by go_num, by omega, hV.out, HRZ.out, HX1.out⟩
        case measure => simp [RowKit.intOf] <;> omega
      have HF : Hid (i ≤ j → rk (R.getD a 0) < rk (R.getD i 0)) := Lib.hid (fun h => Int.not_le.1 (fun k => HSC2.out.2 rfl ⟨h, k⟩))
      have HRZ := Lib.hid HR1
      clear HSC2 HR1
      clear HHH
      go_wp2_with fail
      go_loopw [12] (fun jv wr => ∃ j : Nat, jv = .int .i64 j ∧ j ≤ j0 ∧ Pe a b i (j + 1) R ∧ Hid (i ≤ j → rk (R.getD a 0) < rk (R.getD i 0)) ∧ RowF T wr g R ∧ Bx g w wr) (fun jv _ => (RowKit.intOf jv).toNat)
      case atStart => exact ⟨j, rfl, by omega, HVH.out, HF, HRZ.out, HX1.out⟩
      case round =>
        clear HVH HF HRZ HX1
        obtain ⟨j, rfl, hj4, HV, HF, HR0, HX0⟩ := hrel
        obtain ⟨W0, hW0, HR⟩ : ∃ z, z = _ ∧ RowF T z g R := ⟨_, rfl, HR0⟩
        subst hW0
        have HXH := Lib.hid HX0
        have HVH := Lib.hid HV
        have hie := HV.ie
        have heb := HV.eb
        have h64R : Fin64 R := HP.out.fin h64
        have wj0 : IntKind.i64.wrap (j : Int) = (j : Int) := IntWalk.i64_in _ (by omega)
        have jv1 : (0 : Int) ≤ (j : Int) := by omega
        clear HR0 HX0 HV
        go_upto_region 5 with (fail)
        go_cut [65] (fun cv wx => ∃ bb : Bool, cv = .bool bb ∧ Hid (Scan T g w wx R (i ≤ j) (rk (R.getD a 0) < rk (R.getD j 0)) bb))
        case first =>
          by_cases hij : i ≤ j
          · have t2 : decide ((i : Int) ≤ (j : Int)) = true := decide_eq_true (by omega)
            have ii0 : (i : Int) < N := by omega
            have ij0 : (j : Int) < N := by omega
            obtain ⟨x, y, c, ca, cb, HC, HCMP, HQ⟩ := cmp_ctx HR h64R a j (by rw [hRl]; omega) (by rw [hRl]; omega)
            have HRH := Lib.hid HR
            clear HR h64R
            go_region_held3 (fun z => Below W0.heap.size W0 z ∧ z.cell? ⟨g, a, none⟩ = some (.float .f64 x) ∧ z.cell? ⟨g, j, none⟩ = some (.float .f64 y)) ((refine ⟨?_, HC.out _ ?_⟩ <;> (repeat (first | (with_reducible exact Below.refl _ _) | (with_reducible refine Below.drew ?_) | (with_reducible refine bl_drewN ?_ _) | ((with_reducible apply bthen); rotate_left; assumption))))) ((go_at_call 9; (with_reducible refine (HCMP.out _).mono ?_); rintro e w3 ⟨rfl, B3⟩))
            all_goals
              go_wp2
              have hS := ‹Below W0.heap.size W0 w3 ∧ _›
              go_meet
              case rel =>
                first
                  | exact ⟨decide (c < 0), rfl, Lib.hid (scan_pos (HRH.out.below hS.1) (HXH.out.call HG.out hS.1) hij HQ.out.1)⟩
                  | exact ⟨!decide (c < 0), rfl, Lib.hid (scan_le (HRH.out.below hS.1) (HXH.out.call HG.out hS.1) hij HQ.out.1)⟩
          · have t2 : decide ((i : Int) ≤ (j : Int)) = false := decide_eq_false (by omega)
            have HRH := Lib.hid HR
            clear HR h64R
            go_quiet (fail)
            go_wp2
            go_meet
            case rel => exact ⟨false, rfl, Lib.hid ⟨HRH.out, HXH.out.drewN _, fun hb => Bool.noConfusion hb, fun _ h => hij h.1⟩⟩
        clear HR HXH
        obtain ⟨bb, rfl, HSC⟩ := hcut
        obtain ⟨W1, hW1, HR1⟩ : ∃ z, z = _ ∧ RowF T z g R := ⟨_, rfl, HSC.out.1⟩
        subst hW1
        have HX1 := Lib.hid HSC.out.2.1
        have HSC2 := Lib.hid HSC.out.2.2
        clear HSC
        cases bb
        rotate_left
        · obtain ⟨g1, g2⟩ := HSC2.out.1 rfl
          have hV := Lib.hid (HVH.out.down (by omega) g2)
          obtain ⟨j', rfl⟩ : ∃ j', j = j' + 1 := ⟨j - 1, by omega⟩
          have wj1 : IntKind.i64.wrap (j' : Int) = (j' : Int) := IntWalk.i64_in _ (by omega)
          have HRZ := Lib.hid HR1
          clear g2 HR1 wj0
          go_wp2_with fail
          go_roundw
          case rel => exact ⟨j', rfl, by omega, hV.out, Lib.hid (fun h => HF.out (by omega)), HRZ.out, HX1.out⟩
          case measure => simp [RowKit.intOf] <;> omega
        have HG2 : Hid (i ≤ j → rk (R.getD j 0) ≤ rk (R.getD a 0)) := Lib.hid (fun h => Int.not_lt.1 (fun k => HSC2.out.2 rfl ⟨h, by omega⟩))
        clear HSC2
        by_cases hij : i ≤ j
        · have ii0 : (i : Int) < N := by omega
          have ij0 : (j : Int) < N := by omega
          have t3 : decide ((j : Int) < (i : Int)) = false := decide_eq_false (by omega)
          have hvs := HVH.out.swap hij (by rw [hRl]; omega) (HF.out hij) (HG2.out hij)
          have hlt := hvs.2
          have HVS := Lib.hid hvs.1
          have HPS : Hid (Pm a b L (sw R i j)) := Lib.hid (HP.out.trans (sw_pm R i j (by rw [hRl]; omega) (by rw [hRl]; omega) (by omega) (by omega) (by omega) (by omega)))
          obtain ⟨j', rfl⟩ : ∃ j', j = j' + 1 := ⟨j - 1, by omega⟩
          have wj1 : IntKind.i64.wrap (j' : Int) = (j' : Int) := IntWalk.i64_in _ (by omega)
          obtain ⟨x, hx⟩ : ∃ x, R.getD i 0 = x := ⟨_, rfl⟩
          obtain ⟨y, hy⟩ : ∃ y, R.getD (j' + 1) 0 = y := ⟨_, rfl⟩
          obtain ⟨d1, d2, d3, d4, d5, d6, d7, d8, d9, d10, d11, d12, HRd⟩ := swp_ctx HR1 i (j' + 1) (by rw [hRl]; omega) (by rw [hRl]; omega) hx hy
          have HXd := Lib.hid (bx_swp HX1.out i (j' + 1) (.float .f64 y) (.float .f64 x))
          clear hx hy
          clear HR1 hvs
          go_wp2_with fail
          go_region
          all_goals
            go_wp2_with fail
            clear HVH HF HG2 HX1 HP
            go_roundw
            case rel => exact ⟨i + 1, j', _, by go_num, rfl, ⟨HVS.out.1, Lib.hid (by rw [HVS.out.2]; exact HVA.out)⟩, HRd.out, HPS.out, HXd.out⟩
            case measure => have := HIJ.out; simp [RowKit.intOf] <;> omega
        · have hje : i = j + 1 := by omega
          have t3 : decide ((j : Int) < (i : Int)) = true := decide_eq_true (by omega)
          have HFIN : Hid (EqOut T g a b v L w (.returned (.int .i64 i)) W1) := Lib.hid ⟨i, rfl, by omega, by omega, R, HR1, HP.out, ⟨fun k h1 h2 => by
            rw [← HVA.out]
            by_cases c : k = a
            · subst c; exact Int.le_refl _
            · exact HVH.out.lo k (by omega) h2, fun k h1 h2 => by rw [← HVA.out]; exact HVH.out.hi k (by omega) h2⟩, HX1.out⟩
          clear HR1 hje
          go_wp2_with fail
          go_ret
          exact HFIN.out
end Go.Proofs.YtedllapajgcfeaaGreatDoor
