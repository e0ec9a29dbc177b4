/-
  slices.siftDownCmpFunc of floats by tally.Compare: walked.
-/
import Derived.Test.YtedllapajgcfeaaGreatDoorPq
import Derived.Deep.DeepCutAuto
namespace Go.Proofs.YtedllapajgcfeaaGreatDoor
set_option linter.unusedVariables false
set_option linter.unusedSimpArgs false
open Go.RowKit Go.Proofs.YtedllapajgcfeaaGreatDoorW.PrintWords

/-- What the first test of siftDown says of the child that is taken. -/
def Child (T : List Value) (g f hi ch : Nat) (R : List Nat) (w wx : World) (b : Bool) : Prop := RowF T wx g R ∧ Bx g w wx ∧ (b = true → ch + 1 < hi ∧ rk (R.getD (f + ch) 0) < rk (R.getD (f + ch + 1) 0)) ∧ (b = false → ch + 1 < hi → rk (R.getD (f + ch + 1) 0) ≤ rk (R.getD (f + ch) 0))
set_option maxRecDepth 100000 in
set_option maxHeartbeats 6400000 in
theorem sift_any (T : List Value) (g cap lo hi f : Nat) (L : List Nat) (hL : L.length ≤ 1000) (h64 : Fin64 L) (hfl : f + hi ≤ L.length) (hlo : lo ≤ 1000) (hh : Hp f (lo + 1) hi L) (w : World) (hg : RowF T w g L) :
    Calls Tryz.prog 123 #[.slice (some ⟨g, 0, none⟩) L.length cap, .int .i64 lo, .int .i64 hi, .int .i64 f, .func (.func 9) #[] #[]] w fun e w' => e = .returned (.tuple #[]) ∧ Tn T g (f + lo) (f + hi) L (Hp f lo hi) w w' := by
  have HG := Lib.hid (blk_lt hg)
  go_enter Tryz.func123, Tryz.ntmps123
  go_wp2_with fail
  go_loopw [10] (fun rv wr => ∃ (r : Nat) (R : List Nat), lo ≤ r ∧ r ≤ 1000 ∧ rv = .int .i64 r ∧ RowF T wr g R ∧ Pm (f + lo) (f + hi) L R ∧ Hb f lo hi r R ∧ Bx g w wr) (fun rv _ => 1000 - (RowKit.intOf rv).toNat)
  case atStart => exact ⟨lo, L, Nat.le_refl _, hlo, rfl, hg, Pm.refl _ _ _, hh.hb, Bx.refl _ _⟩
  case round =>
    obtain ⟨r, R, hlr, hr, rfl, HR0, HP0, HB0, HX0⟩ := hrel
    obtain ⟨W0, hW0, HR⟩ : ∃ z, z = _ ∧ RowF T z g R := ⟨_, rfl, HR0⟩
    subst hW0
    have hRl : R.length = L.length := HP0.len
    obtain ⟨ch, hch⟩ : ∃ ch : Nat, 2 * r + 1 = ch := ⟨_, rfl⟩
    have e2 : 2 * (r : Int) + 1 = (ch : Int) := by omega
    have hch0 : 2 * r + 1 = ch := hch
    have HCH := Lib.hid hch
    clear hch
    by_cases hc1 : ch < hi
    · have t1 : decide ((hi : Int) ≤ (ch : Int)) = false := decide_eq_false (by omega)
      have HS := Lib.hid (And.intro HP0 HB0)
      have HRH := Lib.hid HR
      have HXH := Lib.hid HX0
      have h64R := HP0.fin h64
      obtain ⟨p, hp⟩ : ∃ p : Nat, f + ch = p := ⟨_, rfl⟩
      have e3 : (f : Int) + (ch : Int) = (p : Int) := by omega
      have hpl : p + 1 ≤ L.length := by omega
      have wc : IntKind.i64.wrap ((ch : Int) + 1) = (ch : Int) + 1 := IntWalk.i64_in _ (by omega)
      have wf : IntKind.i64.wrap ((f : Int) + (ch : Int)) = (p : Int) := (IntWalk.i64_in _ (by omega)).trans e3
      have wp0 : IntKind.i64.wrap (p : Int) = (p : Int) := IntWalk.i64_in _ (by omega)
      have wp : IntKind.i64.wrap ((p : Int) + 1) = (p : Int) + 1 := IntWalk.i64_in _ (by omega)
      have HPE := Lib.hid hp
      clear HR0 HX0 HP0 HB0 hch0 hp
      go_upto_region 3 with (fail)
      go_cut [40] (fun cv wx => ∃ b : Bool, cv = .bool b ∧ Hid (Child T g f hi ch R w wx b))
      case first =>
        by_cases hc2 : ch + 1 < hi
        · have t2 : decide ((ch : Int) + 1 < (hi : Int)) = true := decide_eq_true (by omega)
          have hpl2 : p + 1 < L.length := by have := HPE.out; omega
          obtain ⟨x, y, c, ca, cb, HC, HCMP, HQ⟩ := cmp_ctx HR h64R p (p + 1) (by rw [hRl]; omega) (by rw [hRl]; omega)
          have i0 : (p : Int) < L.length := by omega
          have i1 : (p : Int) + 1 < L.length := by omega
          have i2 : (0 : Int) ≤ (p : Int) := by omega
          have i3 : (0 : Int) ≤ (p : Int) + 1 := by omega
          clear h64R HR
          go_region_held3 (fun z => Below W0.heap.size W0 z ∧ z.cell? ⟨g, p, none⟩ = some (.float .f64 x) ∧ z.cell? ⟨g, p + 1, none⟩ = some (.float .f64 y)) ((refine ⟨?_, HC.out _ ?_⟩ <;> (repeat (first | (with_reducible exact Below.refl _ _) | (with_reducible refine Below.drew ?_) | (with_reducible refine bl_drewN ?_ _) | ((with_reducible apply bthen); rotate_left; assumption))))) ((go_at_call 9; (with_reducible refine (HCMP.out _).mono ?_); rintro e w3 ⟨rfl, B3⟩))
          all_goals
            go_wp2
            have hS := ‹Below W0.heap.size W0 w3 ∧ _›
            go_meet
            case rel =>
              have hq := HQ.out.1
              have hp := HPE.out
              refine ⟨decide (c < 0), rfl, Lib.hid ⟨HRH.out.below hS.1, HXH.out.call HG.out hS.1, fun hb => ⟨hc2, ?_⟩, fun hb _ => ?_⟩⟩
              · rw [hp]; exact hq.1 (of_decide_eq_true hb)
              · rw [hp]; have := of_decide_eq_false hb; omega
        · have t2 : decide ((ch : Int) + 1 < (hi : Int)) = false := decide_eq_false (by omega)
          go_quiet (fail)
          go_wp2
          go_meet
          case rel => exact ⟨false, rfl, Lib.hid ⟨HRH.out, HXH.out.drewN _, fun hb => Bool.noConfusion hb, fun _ h => absurd h hc2⟩⟩
      clear HR e3 wf wp wp0
      obtain ⟨b, rfl, HCT⟩ := hcut
      obtain ⟨W1, hW1, HR1⟩ : ∃ z, z = _ ∧ RowF T z g R := ⟨_, rfl, HCT.out.1⟩
      subst hW1
      have HX1 := Lib.hid HCT.out.2.1
      have HCT2 := Lib.hid HCT.out.2.2
      clear HCT
      cases b
      · have hdr : ch = 2 * r + 1 ∨ ch = 2 * r + 2 := by have := HCH.out; omega
        have hdh : ch < hi := by omega
        have hrd : r < ch := by have := HCH.out; omega
        have hmx : ∀ c, (c = 2 * r + 1 ∨ c = 2 * r + 2) → c < hi → rk (R.getD (f + c) 0) ≤ rk (R.getD (f + ch) 0) := by
          intro c h1 h2
          have h3 := HCH.out
          rcases h1 with h1 | h1
          · have : c = ch := by omega
            rw [this]; exact Int.le_refl _
          · have h4 := HCT2.out.2 rfl (by omega)
            have h5 : f + ch + 1 = f + c := by omega
            rw [h5] at h4
            exact h4
        clear HCT2
        obtain ⟨q, hq⟩ : ∃ q : Nat, f + r = q := ⟨_, rfl⟩
        obtain ⟨pd, hpd⟩ : ∃ pd : Nat, f + ch = pd := ⟨_, rfl⟩
        have k3 : (f : Int) + (r : Int) = (q : Int) := by omega
        have k4 : (f : Int) + (ch : Int) = (pd : Int) := by omega
        have hql : q < L.length := by omega
        have hdl : pd < L.length := by omega
        have i0 : (q : Int) < L.length := by omega
        have i1 : (pd : Int) < L.length := by omega
        have i2 : (0 : Int) ≤ (q : Int) := by omega
        have i3 : (0 : Int) ≤ (pd : Int) := by omega
        have wq0 : IntKind.i64.wrap (q : Int) = (q : Int) := IntWalk.i64_in _ (by omega)
        have wd0 : IntKind.i64.wrap (pd : Int) = (pd : Int) := IntWalk.i64_in _ (by omega)
        have wq1 : IntKind.i64.wrap ((f : Int) + (r : Int)) = (q : Int) := (IntWalk.i64_in _ (by omega)).trans k3
        have wd1 : IntKind.i64.wrap ((f : Int) + (ch : Int)) = (pd : Int) := (IntWalk.i64_in _ (by omega)).trans k4
        obtain ⟨x, y, c, ca, cb, HC, HCMP, HQ⟩ := cmp_ctx HR1 h64R q pd (by rw [hRl]; omega) (by rw [hRl]; omega)
        have HST : Hid (rk (R.getD q 0) < rk (R.getD pd 0) → Hb f lo hi ch (sw R q pd)) := Lib.hid (fun h => by rw [← hq, ← hpd]; rw [← hq, ← hpd] at h; exact HS.out.2.step (by omega) hdr hdh (by rw [hRl]; omega) h hmx)
        have HSE : Hid (¬ rk (R.getD q 0) < rk (R.getD pd 0) → Hp f lo hi R) := Lib.hid (fun h => HS.out.2.stop (fun c h1 h2 => Int.le_trans (hmx c h1 h2) (by rw [hpd, hq]; omega)))
        have HPM : Hid (Pm (f + lo) (f + hi) R (sw R q pd)) := Lib.hid (sw_pm R q pd (by rw [hRl]; omega) (by rw [hRl]; omega) (by omega) (by omega) (by omega) (by omega))
        have HMX := Lib.hid (And.intro hmx (And.intro hq hpd))
        clear hmx hq hpd
        by_cases hc : c < 0
        · have dc : decide (c < 0) = true := decide_eq_true hc
          have HCL := Lib.hid (HST.out (HQ.out.1.1 hc))
          clear hc
          have HR2 := Lib.hid HR1
          clear HR1
          go_wp2_with fail
          go_region_held3 (fun z => Below W1.heap.size W1 z ∧ z.cell? ⟨g, q, none⟩ = some (.float .f64 x) ∧ z.cell? ⟨g, pd, none⟩ = some (.float .f64 y)) ((refine ⟨?_, HC.out _ ?_⟩ <;> (repeat (first | (with_reducible exact Below.refl _ _) | (with_reducible refine Below.drew ?_) | (with_reducible refine bl_drewN ?_ _) | ((with_reducible apply bthen); rotate_left; assumption))))) ((go_at_call 9; (with_reducible refine (HCMP.out _).mono ?_); rintro e w3 ⟨rfl, B3⟩))
          all_goals
            go_wp2_with fail
            have hS := ‹Below W1.heap.size W1 w3 ∧ _›
            obtain ⟨d1, d2, d3, d4, d5, d6, d7, d8, d9, d10, d11, d12, HRd⟩ := swp_ctx (HR2.out.below hS.1) q pd (by rw [hRl]; omega) (by rw [hRl]; omega) HQ.out.2.1 HQ.out.2.2
            go_region_with (fail)
            all_goals
              go_wp2_with fail
              exact ⟨⟨ch, sw R q pd, by omega, by omega, rfl, HRd.out, HS.out.1.trans HPM.out, HCL.out, bx_swp (HX1.out.call HG.out hS.1) _ _ _ _⟩, by simp [RowKit.intOf] <;> omega⟩
        · have dc : decide (c < 0) = false := decide_eq_false hc
          have HCL := Lib.hid (HSE.out (fun h => hc (HQ.out.1.2 h)))
          clear hc
          have HR2 := Lib.hid HR1
          clear HR1
          go_wp2_with fail
          go_region_held3 (fun z => Below W1.heap.size W1 z ∧ z.cell? ⟨g, q, none⟩ = some (.float .f64 x) ∧ z.cell? ⟨g, pd, none⟩ = some (.float .f64 y)) ((refine ⟨?_, HC.out _ ?_⟩ <;> (repeat (first | (with_reducible exact Below.refl _ _) | (with_reducible refine Below.drew ?_) | (with_reducible refine bl_drewN ?_ _) | ((with_reducible apply bthen); rotate_left; assumption))))) ((go_at_call 9; (with_reducible refine (HCMP.out _).mono ?_); rintro e w3 ⟨rfl, B3⟩))
          all_goals
            go_wp2_with fail
            have hS := ‹Below W1.heap.size W1 w3 ∧ _›
            have HFIN : Hid (Tn T g (f + lo) (f + hi) L (Hp f lo hi) w w3) := Lib.hid ⟨R, HR2.out.below hS.1, HS.out.1, HCL.out, HX1.out.call HG.out hS.1⟩
            clear hS
            first
              | (go_end0; exact ⟨rfl, HFIN.out⟩)
              | exact bodyPost_ret (results_none rfl _ _ _) rfl ⟨rfl, HFIN.out⟩
      · obtain ⟨d, hd⟩ : ∃ d : Nat, ch + 1 = d := ⟨_, rfl⟩
        have hdr : d = 2 * r + 1 ∨ d = 2 * r + 2 := by have := HCH.out; omega
        have hdh : d < hi := by have := HCT2.out.1 rfl; omega
        have hrd : r < d := by have := HCH.out; omega
        have hmx : ∀ c, (c = 2 * r + 1 ∨ c = 2 * r + 2) → c < hi → rk (R.getD (f + c) 0) ≤ rk (R.getD (f + d) 0) := by
          intro c h1 h2
          have h3 := HCH.out
          have h4 := (HCT2.out.1 rfl).2
          have h5 : f + ch + 1 = f + d := by omega
          rw [h5] at h4
          rcases h1 with h1 | h1
          · have : c = ch := by omega
            rw [this]; omega
          · have : c = d := by omega
            rw [this]; exact Int.le_refl _
        have ed : (ch : Int) + 1 = (d : Int) := by omega
        have wd : IntKind.i64.wrap (d : Int) = (d : Int) := IntWalk.i64_in _ (by omega)
        clear HCT2 wc hd
        obtain ⟨q, hq⟩ : ∃ q : Nat, f + r = q := ⟨_, rfl⟩
        obtain ⟨pd, hpd⟩ : ∃ pd : Nat, f + d = pd := ⟨_, rfl⟩
        have k3 : (f : Int) + (r : Int) = (q : Int) := by omega
        have k4 : (f : Int) + (d : Int) = (pd : Int) := by omega
        have hql : q < L.length := by omega
        have hdl : pd < L.length := by omega
        have i0 : (q : Int) < L.length := by omega
        have i1 : (pd : Int) < L.length := by omega
        have i2 : (0 : Int) ≤ (q : Int) := by omega
        have i3 : (0 : Int) ≤ (pd : Int) := by omega
        have wq0 : IntKind.i64.wrap (q : Int) = (q : Int) := IntWalk.i64_in _ (by omega)
        have wd0 : IntKind.i64.wrap (pd : Int) = (pd : Int) := IntWalk.i64_in _ (by omega)
        have wq1 : IntKind.i64.wrap ((f : Int) + (r : Int)) = (q : Int) := (IntWalk.i64_in _ (by omega)).trans k3
        have wd1 : IntKind.i64.wrap ((f : Int) + (d : Int)) = (pd : Int) := (IntWalk.i64_in _ (by omega)).trans k4
        obtain ⟨x, y, c, ca, cb, HC, HCMP, HQ⟩ := cmp_ctx HR1 h64R q pd (by rw [hRl]; omega) (by rw [hRl]; omega)
        have HST : Hid (rk (R.getD q 0) < rk (R.getD pd 0) → Hb f lo hi d (sw R q pd)) := Lib.hid (fun h => by rw [← hq, ← hpd]; rw [← hq, ← hpd] at h; exact HS.out.2.step (by omega) hdr hdh (by rw [hRl]; omega) h hmx)
        have HSE : Hid (¬ rk (R.getD q 0) < rk (R.getD pd 0) → Hp f lo hi R) := Lib.hid (fun h => HS.out.2.stop (fun c h1 h2 => Int.le_trans (hmx c h1 h2) (by rw [hpd, hq]; omega)))
        have HPM : Hid (Pm (f + lo) (f + hi) R (sw R q pd)) := Lib.hid (sw_pm R q pd (by rw [hRl]; omega) (by rw [hRl]; omega) (by omega) (by omega) (by omega) (by omega))
        have HMX := Lib.hid (And.intro hmx (And.intro hq hpd))
        clear hmx hq hpd
        by_cases hc : c < 0
        · have dc : decide (c < 0) = true := decide_eq_true hc
          have HCL := Lib.hid (HST.out (HQ.out.1.1 hc))
          clear hc
          have HR2 := Lib.hid HR1
          clear HR1
          go_wp2_with fail
          go_region_held3 (fun z => Below W1.heap.size W1 z ∧ z.cell? ⟨g, q, none⟩ = some (.float .f64 x) ∧ z.cell? ⟨g, pd, none⟩ = some (.float .f64 y)) ((refine ⟨?_, HC.out _ ?_⟩ <;> (repeat (first | (with_reducible exact Below.refl _ _) | (with_reducible refine Below.drew ?_) | (with_reducible refine bl_drewN ?_ _) | ((with_reducible apply bthen); rotate_left; assumption))))) ((go_at_call 9; (with_reducible refine (HCMP.out _).mono ?_); rintro e w3 ⟨rfl, B3⟩))
          all_goals
            go_wp2_with fail
            have hS := ‹Below W1.heap.size W1 w3 ∧ _›
            obtain ⟨d1, d2, d3, d4, d5, d6, d7, d8, d9, d10, d11, d12, HRd⟩ := swp_ctx (HR2.out.below hS.1) q pd (by rw [hRl]; omega) (by rw [hRl]; omega) HQ.out.2.1 HQ.out.2.2
            go_region_with (fail)
            all_goals
              go_wp2_with fail
              exact ⟨⟨d, sw R q pd, by omega, by omega, rfl, HRd.out, HS.out.1.trans HPM.out, HCL.out, bx_swp (HX1.out.call HG.out hS.1) _ _ _ _⟩, by simp [RowKit.intOf] <;> omega⟩
        · have dc : decide (c < 0) = false := decide_eq_false hc
          have HCL := Lib.hid (HSE.out (fun h => hc (HQ.out.1.2 h)))
          clear hc
          have HR2 := Lib.hid HR1
          clear HR1
          go_wp2_with fail
          go_region_held3 (fun z => Below W1.heap.size W1 z ∧ z.cell? ⟨g, q, none⟩ = some (.float .f64 x) ∧ z.cell? ⟨g, pd, none⟩ = some (.float .f64 y)) ((refine ⟨?_, HC.out _ ?_⟩ <;> (repeat (first | (with_reducible exact Below.refl _ _) | (with_reducible refine Below.drew ?_) | (with_reducible refine bl_drewN ?_ _) | ((with_reducible apply bthen); rotate_left; assumption))))) ((go_at_call 9; (with_reducible refine (HCMP.out _).mono ?_); rintro e w3 ⟨rfl, B3⟩))
          all_goals
            go_wp2_with fail
            have hS := ‹Below W1.heap.size W1 w3 ∧ _›
            have HFIN : Hid (Tn T g (f + lo) (f + hi) L (Hp f lo hi) w w3) := Lib.hid ⟨R, HR2.out.below hS.1, HS.out.1, HCL.out, HX1.out.call HG.out hS.1⟩
            clear hS
            first
              | (go_end0; exact ⟨rfl, HFIN.out⟩)
              | exact bodyPost_ret (results_none rfl _ _ _) rfl ⟨rfl, HFIN.out⟩
    · have t1 : decide ((hi : Int) ≤ (ch : Int)) = true := decide_eq_true (by omega)
      have HFIN : Hid (Tn T g (f + lo) (f + hi) L (Hp f lo hi) w W0) := Lib.hid ⟨R, HR, HP0, HB0.stop (fun c h1 h2 => by have := HCH.out; omega), HX0⟩
      clear HR HR0 HP0 HB0 HX0 hch0
      go_wp2_with fail
      first
        | (go_end0; exact ⟨rfl, HFIN.out⟩)
        | exact bodyPost_ret (results_none rfl _ _ _) rfl ⟨rfl, HFIN.out⟩
end Go.Proofs.YtedllapajgcfeaaGreatDoor
