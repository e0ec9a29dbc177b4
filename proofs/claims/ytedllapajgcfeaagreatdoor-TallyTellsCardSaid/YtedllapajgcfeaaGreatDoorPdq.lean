/-
  slices.pdqsortCmpFunc of floats by tally.Compare: walked.
-/
import Derived.Test.YtedllapajgcfeaaGreatDoorHes
import Derived.Test.YtedllapajgcfeaaGreatDoorPeq
import Derived.Test.YtedllapajgcfeaaGreatDoorPin
import Derived.Test.YtedllapajgcfeaaGreatDoorRev
import Derived.Test.YtedllapajgcfeaaGreatDoorBrk
namespace Go.Proofs.YtedllapajgcfeaaGreatDoor
set_option linter.unusedVariables false
set_option linter.unusedSimpArgs false
open Go.RowKit Go.Proofs.YtedllapajgcfeaaGreatDoorW.PrintWords

/-- How a sort stands: what is left is [a, b). -/
structure Gd (T : List Value) (g a0 b0 a b : Nat) (L : List Nat) (w : World) (R : List Nat) (wx : World) : Prop where
  row : RowF T wx g R
  pm : Pm a0 b0 L R
  dn : Dn a0 b0 a b R
  bx : Bx g w wx
  ha : a0 ≤ a
  hb : b ≤ b0
theorem Gd.tn {T : List Value} {g a0 b0 a b : Nat} {L R : List Nat} {w wx w' : World} {Q : List Nat → Prop} (h : Gd T g a0 b0 a b L w R wx) (k : Tn T g a b R Q wx w') : ∃ M, Gd T g a0 b0 a b L w M w' ∧ Pm a b R M ∧ Q M := by
  obtain ⟨M, h1, h2, h3, h4⟩ := k
  exact ⟨M, ⟨h1, h.pm.trans (h2.wide h.ha h.hb), h.dn.pm h2 h.ha h.hb, h.bx.trans h4, h.ha, h.hb⟩, h2, h3⟩
theorem Gd.fin {T : List Value} {g a0 b0 a b : Nat} {L R : List Nat} {w wx : World} (h : Gd T g a0 b0 a b L w R wx) (k : So a b R) : Tn T g a0 b0 L (So a0 b0) w wx := ⟨R, h.row, h.pm, h.dn.so k, h.bx⟩
theorem Gd.lo {T : List Value} {g a0 b0 a b : Nat} {L R : List Nat} {w wx : World} (h : Gd T g a0 b0 a b L w R wx) (k : Lo a0 b0 L) : Lo a b R := h.dn.lo (k.pm h.pm (Nat.le_refl _) (Nat.le_refl _)) h.ha h.hb
theorem Gd.call {T : List Value} {g a0 b0 a b : Nat} {L R : List Nat} {w wx w' : World} (h : Gd T g a0 b0 a b L w R wx) (k : Below wx.heap.size wx w') : Gd T g a0 b0 a b L w R w' := ⟨h.row.below k, h.pm, h.dn, h.bx.trans ((Bx.refl g wx).call (blk_lt h.row) k), h.ha, h.hb⟩
theorem ins_n (T : List Value) (g cap a b N : Nat) (L : List Nat) (hN : L.length = N) (hL : N ≤ 1000) (h64 : Fin64 L) (hab : a ≤ b) (hbl : b ≤ N) (w : World) (hg : RowF T w g L) :
    Calls Tryz.prog 85 #[.slice (some ⟨g, 0, none⟩) N cap, .int .i64 a, .int .i64 b, .func (.func 9) #[] #[]] w fun e w' => e = .returned (.tuple #[]) ∧ Tn T g a b L (So a b) w w' := by
  subst hN
  exact ins_ab T g cap a b L hL h64 hab hbl w hg
theorem Tn.wide {T : List Value} {g a b c d : Nat} {L : List Nat} {Q : List Nat → Prop} {w w' : World} (h : Tn T g a b L Q w w') (h1 : c ≤ a) (h2 : b ≤ d) : ∃ M, Tn T g c d L (fun M' => M' = M) w w' ∧ Pm a b L M ∧ Q M := by
  obtain ⟨M, k1, k2, k3, k4⟩ := h
  exact ⟨M, ⟨M, k1, k2.wide h1 h2, rfl, k4⟩, k2, k3⟩
theorem Gd.equal {T : List Value} {g a0 b0 a b m : Nat} {L R M : List Nat} {w wx : World} {v u : Int} (h : Gd T g a0 b0 a b L w M wx) (pm : Pm a b R M) (lo : ∀ k, a ≤ k → k < b → u ≤ rk (R.getD k 0)) (hv : v ≤ u) (q : (∀ k, a ≤ k → k < m → rk (M.getD k 0) ≤ v) ∧ ∀ k, m ≤ k → k < b → v < rk (M.getD k 0)) (h1 : a < m) (h2 : m ≤ b) : Gd T g a0 b0 m b L w M wx := by
  have ge := pm.all (fun x => u ≤ rk x) lo
  refine ⟨h.row, h.pm, h.dn.equal (x := v) (fun i k1 k2 => ?_) (fun i k1 k2 => ?_), h.bx, ?_, h.hb⟩
  · have := ge i k1 (by omega); have := q.1 i k1 k2; omega
  · exact Int.le_of_lt (q.2 i k1 k2)
  · have := h.ha; omega
theorem Gd.left {T : List Value} {g a0 b0 a b m : Nat} {L M R : List Nat} {w wx wy : World} (h : Gd T g a0 b0 a b L w M wx) (p : Parted a b m M) (h1 : a ≤ m) (h2 : m < b) (k : Tn T g a m M (So a m) wx wy) : ∃ M', Gd T g a0 b0 (m + 1) b L w M' wy := by
  obtain ⟨M', k1, k2, k3, k4⟩ := k
  have hd := h.dn.pm (k2.wide (Nat.le_refl _) (Nat.le_of_lt h2)) h.ha h.hb
  refine ⟨M', k1, h.pm.trans (k2.wide h.ha (by have := h.hb; omega)), hd.left h1 h2 k3 (fun i i1 i2 => ?_) (fun i i1 i2 => ?_), h.bx.trans k4, by have := h.ha; omega, h.hb⟩
  · rw [k2.out m (by omega)]
    exact k2.all (fun x => rk x ≤ rk (M.getD m 0)) p.1 i i1 i2
  · rw [k2.out m (by omega), k2.out i (by omega)]
    exact p.2 i i1 i2
theorem Gd.right {T : List Value} {g a0 b0 a b m : Nat} {L M R : List Nat} {w wx wy : World} (h : Gd T g a0 b0 a b L w M wx) (p : Parted a b m M) (h1 : a ≤ m) (h2 : m < b) (k : Tn T g (m + 1) b M (So (m + 1) b) wx wy) : ∃ M', Gd T g a0 b0 a m L w M' wy := by
  obtain ⟨M', k1, k2, k3, k4⟩ := k
  have hd := h.dn.pm (k2.wide (by omega) (Nat.le_refl _)) h.ha h.hb
  refine ⟨M', k1, h.pm.trans (k2.wide (by have := h.ha; omega) h.hb), hd.right h1 h2 k3 (fun i i1 i2 => ?_) (fun i i1 i2 => ?_), h.bx.trans k4, h.ha, by have := h.hb; omega⟩
  · rw [k2.out m (by omega), k2.out i (by omega)]
    exact p.1 i i1 i2
  · rw [k2.out m (by omega)]
    exact k2.all (fun x => rk (M.getD m 0) ≤ rk x) (fun j j1 j2 => p.2 j (by omega) j2) i (by omega) i2
/-- What is claimed of the sort of fewer than k numbers. -/
def PdqSaid (k : Nat) : Prop := ∀ (T : List Value) (g cap a b N : Nat) (l : Int) (L : List Nat), L.length = N → N ≤ 1000 → Fin64 L → a ≤ b → b ≤ N → b - a < k → 0 ≤ l → l ≤ 1000 → Lo a b L → ∀ w, RowF T w g L →
  Calls Tryz.prog 54 #[.slice (some ⟨g, 0, none⟩) N cap, .int .i64 a, .int .i64 b, .int .i64 l, .func (.func 9) #[] #[]] w fun e w' => e = .returned (.tuple #[]) ∧ Tn T g a b L (So a b) w w'
set_option maxRecDepth 100000 in
set_option maxHeartbeats 12800000 in
theorem pdq_step (k : Nat) (IH : PdqSaid k) : PdqSaid (k + 1) := by
  intro T g cap a0 b0 N l0 L hN hL h64 hab0 hbl0 hsz hl0 hl1 hlo w hg
  have HIH := Lib.hid IH
  have HNN := Lib.hid hN
  have HLO := Lib.hid (And.intro hlo hsz)
  clear IH hN hlo hsz
  go_enter Tryz.func54, Tryz.ntmps54
  go_wp2_with fail
  go_loopw [1, 2, 3, 10, 11] (fun av bv lv cv pv wr => ∃ (a b : Nat) (l : Int) (bb pp : Bool) (R : List Nat), av = .int .i64 a ∧ bv = .int .i64 b ∧ lv = .int .i64 l ∧ cv = .bool bb ∧ pv = .bool pp ∧ a ≤ b ∧ 0 ≤ l ∧ l ≤ 1000 ∧ Gd T g a0 b0 a b L w R wr) (fun av bv _ _ _ _ => (RowKit.intOf bv - RowKit.intOf av).toNat)
  case atStart => exact ⟨a0, b0, l0, true, true, L, rfl, rfl, rfl, rfl, rfl, hab0, hl0, hl1, hg, Pm.refl _ _ _, Dn.start _ _ _, Bx.refl _ _, Nat.le_refl _, Nat.le_refl _⟩
  case round =>
    clear hg hl0 hl1
    obtain ⟨a, b, l, bb, pp, R, rfl, rfl, rfl, rfl, rfl, hab, hl0, hl1, hG⟩ := hrel
    have haa := hG.ha
    have hbb := hG.hb
    have hbN : b ≤ N := by omega
    have hRl : Hid (R.length = N ∧ Fin64 R) := Lib.hid ⟨hG.pm.len.trans HNN.out, hG.pm.fin h64⟩
    have HG := Lib.hid hG
    clear hG
    obtain ⟨n, hn⟩ : ∃ n : Nat, b - a = n := ⟨_, rfl⟩
    have e1 : (b : Int) - (a : Int) = (n : Int) := by omega
    have w1 : IntKind.i64.wrap (n : Int) = (n : Int) := IntWalk.i64_in _ (by omega)
    by_cases hn12 : n ≤ 12
    · have t1 : decide ((n : Int) ≤ 12) = true := decide_eq_true (by omega)
      clear hn
      go_wp2_with fail
      refine (ins_n T g cap a b N R hRl.out.1 hL hRl.out.2 hab hbN _ HG.out.row).mono ?_
      rintro e w4 ⟨rfl, hT⟩
      obtain ⟨M, hM, _, hS⟩ := HG.out.tn hT
      have HFIN := Lib.hid (hM.fin hS)
      clear hT hM hS
      go_wp2_with fail
      first
        | (go_end0; exact ⟨rfl, HFIN.out⟩)
        | exact bodyPost_ret (results_none rfl _ _ _) rfl ⟨rfl, HFIN.out⟩
    · have t1 : decide ((n : Int) ≤ 12) = false := decide_eq_false (by omega)
      have hab12 : a + 12 < b := by omega
      clear hn
      by_cases hl : l = 0
      · subst hl
        go_wp2_with fail
        refine (heap_any T g cap a b N R hRl.out.1 hL hRl.out.2 (by omega) hbN _ HG.out.row).mono ?_
        rintro e w4 ⟨rfl, hT⟩
        obtain ⟨M, hM, _, hS⟩ := HG.out.tn hT
        have HFIN := Lib.hid (hM.fin hS)
        clear hT hM hS
        go_wp2_with fail
        first
          | (go_end0; exact ⟨rfl, HFIN.out⟩)
          | exact bodyPost_ret (results_none rfl _ _ _) rfl ⟨rfl, HFIN.out⟩
      · have t2 : (l == 0) = false := beq_eq_false_iff_ne.2 hl
        have wl : IntKind.i64.wrap (l - 1) = l - 1 := IntWalk.i64_in _ (by omega)
        go_upto_if 39 with (fail)
        go_cut [3] (fun lv wx => ∃ (l : Int) (R : List Nat), lv = .int .i64 l ∧ 0 ≤ l ∧ l ≤ 1000 ∧ Hid (Gd T g a0 b0 a b L w R wx))
        case first =>
          cases bb
          · go_wp2_with fail
            refine (brk_any T g cap a b N R hRl.out.1 hL hab12 hbN _ HG.out.row).mono ?_
            rintro e w4 ⟨rfl, hT⟩
            obtain ⟨M, hM, _, _⟩ := HG.out.tn hT
            have HM := Lib.hid hM
            clear hT hM
            go_wp2_with fail
            go_meet
            case rel => exact ⟨l - 1, M, rfl, by omega, by omega, HM⟩
          · go_wp2_with fail
            go_meet
            case rel => exact ⟨l, R, rfl, hl0, hl1, HG⟩
        clear hRl HG hl wl t2 hl0 hl1
        obtain ⟨l, R, rfl, hl0, hl1, HG⟩ := hcut
        have hRl : Hid (R.length = N ∧ Fin64 R) := Lib.hid ⟨HG.out.pm.len.trans HNN.out, HG.out.pm.fin h64⟩
        go_wp2_with fail
        refine (pivot_any T g cap a b N R hRl.out.1 hL hRl.out.2 hab12 hbN _ HG.out.row).mono ?_
        rintro e w5 ⟨p, h, rfl, hap, hpb, hB5⟩
        have HG5 := Lib.hid (HG.out.call hB5)
        clear hB5 HG
        obtain ⟨b2, hb2⟩ : ∃ b2 : Bool, (h == 2) = b2 := ⟨_, rfl⟩
        go_upto_if 56 with (fail)
        go_cut [13, 14] (fun pv hv wx => ∃ (p : Nat) (h : Int) (R : List Nat), pv = .int .i64 p ∧ hv = .int .i64 h ∧ a ≤ p ∧ p < b ∧ Hid (Gd T g a0 b0 a b L w R wx))
        case first =>
          cases b2
          · go_wp2_with fail
            go_meet
            case rel => exact ⟨p, h, R, rfl, rfl, hap, hpb, HG5⟩
          · obtain ⟨q, hq⟩ : ∃ q : Nat, (b - 1) - (p - a) = q := ⟨_, rfl⟩
            obtain ⟨b1, hb1⟩ : ∃ b1 : Nat, b - 1 = b1 := ⟨_, rfl⟩
            obtain ⟨pa, hpa⟩ : ∃ pa : Nat, p - a = pa := ⟨_, rfl⟩
            have k1 : (b : Int) - 1 = (b1 : Int) := by omega
            have k2 : (p : Int) - (a : Int) = (pa : Int) := by omega
            have k3 : (b1 : Int) - (pa : Int) = (q : Int) := by omega
            have v1 : IntKind.i64.wrap (b1 : Int) = (b1 : Int) := IntWalk.i64_in _ (by omega)
            have v2 : IntKind.i64.wrap (pa : Int) = (pa : Int) := IntWalk.i64_in _ (by omega)
            have v3 : IntKind.i64.wrap (q : Int) = (q : Int) := IntWalk.i64_in _ (by omega)
            have hqa : a ≤ q ∧ q < b := by omega
            clear hq hb1 hpa
            go_wp2_with fail
            refine (rev_any T g cap a b N R hRl.out.1 hL (by omega) hbN _ HG5.out.row).mono ?_
            rintro e w6 ⟨rfl, hT⟩
            obtain ⟨M, hM, _, _⟩ := HG5.out.tn hT
            have HM := Lib.hid hM
            clear hT hM
            go_wp2_with fail
            go_meet
            case rel => exact ⟨q, 1, M, rfl, rfl, hqa.1, hqa.2, HM⟩
        clear hRl HG5 hap hpb hb2
        obtain ⟨p, h, R, rfl, rfl, hap, hpb, HG5⟩ := hcut
        have hRl : Hid (R.length = N ∧ Fin64 R) := Lib.hid ⟨HG5.out.pm.len.trans HNN.out, HG5.out.pm.fin h64⟩
        obtain ⟨b3, hb3⟩ : ∃ b3 : Bool, (h == 1) = b3 := ⟨_, rfl⟩
        go_upto_region 15 with (fail)
        go_cut [75] (fun tv wx => ∃ t : Bool, tv = .bool t ∧ Hid (Gd T g a0 b0 a b L w R wx))
        case first =>
          cases bb
          all_goals
            cases pp
            all_goals
              cases b3
              all_goals
                go_wp2_with fail
                go_meet
                case rel => exact ⟨_, rfl, HG5⟩
        clear HG5 hb3
        obtain ⟨t, rfl, HG5⟩ := hcut
        go_upto_if 75 with (fail)
        go_cut [] (fun wx => ∃ R : List Nat, Hid (Gd T g a0 b0 a b L w R wx))
        case first =>
          cases t
          · go_wp2_with fail
            go_meet
            case rel => exact ⟨R, HG5⟩
          · go_wp2_with fail
            refine (pin_any T g cap a b N R hRl.out.1 hL hRl.out.2 (by omega) hbN (HG5.out.lo HLO.out.1) _ HG5.out.row).mono ?_
            rintro e w6 ⟨bb', rfl, hT⟩
            obtain ⟨M, hM, _, hS⟩ := HG5.out.tn hT
            have HM := Lib.hid (And.intro hM hS)
            clear hT hM hS
            cases bb'
            · go_wp2_with fail
              go_meet
              case rel => exact ⟨M, Lib.hid HM.out.1⟩
            · have HFIN := Lib.hid (HM.out.1.fin (HM.out.2 rfl))
              go_wp2_with fail
              first
                | (go_end0; exact ⟨rfl, HFIN.out⟩)
                | exact bodyPost_ret (results_none rfl _ _ _) rfl ⟨rfl, HFIN.out⟩
        clear hRl HG5
        obtain ⟨R, HG5⟩ := hcut
        have hRl : Hid (R.length = N ∧ Fin64 R) := Lib.hid ⟨HG5.out.pm.len.trans HNN.out, HG5.out.pm.fin h64⟩
        go_upto_region 17 with (fail)
        go_cut [97] (fun tv wx => ∃ t : Bool, tv = .bool t ∧ Hid (Gd T g a0 b0 a b L w R wx ∧ (t = true → ∃ m, m + 1 = a ∧ rk (R.getD p 0) ≤ rk (R.getD m 0))))
        case first =>
          obtain ⟨W0, hW0, HR⟩ : ∃ z, z = _ ∧ RowF T z g R := ⟨_, rfl, HG5.out.row⟩
          subst hW0
          by_cases h0 : 0 < a
          · obtain ⟨m, hm⟩ : ∃ m, m + 1 = a := ⟨a - 1, by omega⟩
            have em : (a : Int) - 1 = (m : Int) := by omega
            have tm : decide ((0 : Int) < (a : Int)) = true := decide_eq_true (by omega)
            have hmN : m < N := by omega
            have hpN : p < N := by omega
            have HMA := Lib.hid hm
            have ium : (m : Int) < N := by omega
            have ivm : (0 : Int) ≤ (m : Int) := by omega
            have iwm : IntKind.i64.wrap (m : Int) = (m : Int) := IntWalk.i64_in _ (by omega)
            have iup : (p : Int) < N := by omega
            have ivp : (0 : Int) ≤ (p : Int) := by omega
            have iwp : IntKind.i64.wrap (p : Int) = (p : Int) := IntWalk.i64_in _ (by omega)
            obtain ⟨x, y, c, ca, cb, HC, HCMP, HQ⟩ := cmp_ctx HR hRl.out.2 m p (by rw [hRl.out.1]; omega) (by rw [hRl.out.1]; omega)
            clear HR hm
            go_region_held3 (fun z => Below W0.heap.size W0 z ∧ z.cell? ⟨g, m, none⟩ = some (.float .f64 x) ∧ z.cell? ⟨g, p, none⟩ = some (.float .f64 y)) ((refine ⟨?_, HC.out _ ?_⟩ <;> (repeat (first | (with_reducible exact Below.refl _ _) | (with_reducible refine Below.drew ?_) | (with_reducible refine bl_drewN ?_ _) | ((with_reducible apply bthen); rotate_left; assumption))))) ((go_at_call 9; (with_reducible refine (HCMP.out _).mono ?_); rintro e w3 ⟨rfl, B3⟩))
            all_goals
              go_wp2
              have hS := ‹Below W0.heap.size W0 w3 ∧ _›
              go_meet
              case rel => exact ⟨!decide (c < 0), rfl, Lib.hid ⟨HG5.out.call hS.1, fun ht => ⟨m, HMA.out, by
                have h1 := HQ.out.1
                have h2 : ¬ c < 0 := by simpa using ht
                have h3 := fun h => h2 (h1.2 h)
                omega⟩⟩⟩
          · have tm : decide ((0 : Int) < (a : Int)) = false := decide_eq_false (by omega)
            clear HR
            go_quiet (fail)
            go_wp2
            go_meet
            case rel => exact ⟨false, rfl, Lib.hid ⟨HG5.out.call (bl_drewN (Below.refl _ _) _), fun h => Bool.noConfusion h⟩⟩
        clear HG5
        obtain ⟨t, rfl, HG5⟩ := hcut
        cases t
        · go_wp2_with fail
          refine (part_any T g cap a b p N R hRl.out.1 hL hRl.out.2 hap hpb hbN _ HG5.out.1.row).mono ?_
          rintro e w6 ⟨m, bb', rfl, ham, hmb, hT⟩
          obtain ⟨M, hM, _, hS⟩ := HG5.out.1.tn hT
          have HM := Lib.hid (And.intro hM hS)
          have hMl : Hid (M.length = N ∧ Fin64 M) := Lib.hid ⟨HM.out.1.pm.len.trans HNN.out, HM.out.1.pm.fin h64⟩
          clear hT hM hS hRl HG5
          obtain ⟨ll, hll⟩ : ∃ ll : Nat, m - a = ll := ⟨_, rfl⟩
          obtain ⟨rr, hrr⟩ : ∃ rr : Nat, b - m = rr := ⟨_, rfl⟩
          obtain ⟨v, hv⟩ : ∃ v : Nat, n / 8 = v := ⟨_, rfl⟩
          have k1 : (m : Int) - (a : Int) = (ll : Int) := by omega
          have k2 : (b : Int) - (m : Int) = (rr : Int) := by omega
          have k3 : (n : Int) / 8 = (v : Int) := by omega
          have k3' : Int.tdiv (n : Int) 8 = (v : Int) := by rw [Int.tdiv_eq_ediv_of_nonneg (by omega)]; exact k3
          have v1 : IntKind.i64.wrap (ll : Int) = (ll : Int) := IntWalk.i64_in _ (by omega)
          have v2 : IntKind.i64.wrap (rr : Int) = (rr : Int) := IntWalk.i64_in _ (by omega)
          have v3 : IntKind.i64.wrap (v : Int) = (v : Int) := IntWalk.i64_in _ (by omega)
          have v4 : IntKind.i64.wrap ((m : Int) + 1) = (m : Int) + 1 := IntWalk.i64_in _ (by omega)
          obtain ⟨m1, hm1⟩ : ∃ m1 : Nat, m + 1 = m1 := ⟨_, rfl⟩
          have k4 : (m : Int) + 1 = (m1 : Int) := by omega
          have v5 : IntKind.i64.wrap (m1 : Int) = (m1 : Int) := IntWalk.i64_in _ (by omega)
          have HM1 := Lib.hid hm1
          have hmm : m < m1 ∧ m1 ≤ b := by omega
          have hsz := HLO.out.2
          have hlk : m - a < k ∧ b - m1 < k := by omega
          clear hll hrr hv hm1 hsz
          by_cases hlr : ll < rr
          · have t3 : decide ((ll : Int) < (rr : Int)) = true := decide_eq_true (by omega)
            go_wp2_with fail
            refine (HIH.out T g cap a m N l M hMl.out.1 hL hMl.out.2 ham (by omega) hlk.1 hl0 hl1 ((HM.out.1.lo HLO.out.1).le (by omega)) _ HM.out.1.row).mono ?_
            rintro e w7 ⟨rfl, hT⟩
            obtain ⟨M', hM'⟩ := HM.out.1.left (R := []) HM.out.2 ham hmb hT
            have HM' : Hid (Gd T g a0 b0 m1 b L w M' w7) := Lib.hid (by rw [← HM1.out]; exact hM')
            clear hT hM'
            go_wp2_with fail
            go_roundw
            case rel => exact ⟨m1, b, l, _, bb', M', rfl, rfl, rfl, rfl, rfl, by omega, hl0, hl1, HM'.out⟩
            case measure => simp [RowKit.intOf] <;> omega
          · have t3 : decide ((ll : Int) < (rr : Int)) = false := decide_eq_false (by omega)
            go_wp2_with fail
            refine (HIH.out T g cap m1 b N l M hMl.out.1 hL hMl.out.2 hmm.2 (by omega) hlk.2 hl0 hl1 (fun i j h1 h2 h3 h4 => by have h5 := HM1.out; obtain rfl : i = m := (by omega); exact HM.out.2.2 j (by omega) h4) _ HM.out.1.row).mono ?_
            rintro e w7 ⟨rfl, hT⟩
            obtain ⟨M', hM'⟩ := HM.out.1.right (R := []) HM.out.2 ham hmb (by rw [HM1.out]; exact hT)
            have HM' := Lib.hid hM'
            clear hT hM'
            go_wp2_with fail
            go_roundw
            case rel => exact ⟨a, m, l, _, bb', M', rfl, rfl, rfl, rfl, rfl, by omega, hl0, hl1, HM'.out⟩
            case measure => simp [RowKit.intOf] <;> omega
        · go_wp2_with fail
          refine (peq_any T g cap a b p N R hRl.out.1 hL hRl.out.2 hap hpb hbN _ HG5.out.1.row).mono ?_
          rintro e w6 ⟨m, rfl, ham, hmb, hT⟩
          obtain ⟨M, hM, hpm, hS⟩ := HG5.out.1.tn hT
          obtain ⟨m0, hm0, hle⟩ := HG5.out.2 (by first | trivial | rfl)
          have HM' := Lib.hid (hM.equal hpm (fun k k1 k2 => (HG5.out.1.lo HLO.out.1) m0 k (by omega) hm0 k1 k2) hle hS ham hmb)
          clear hT hM hS hpm hm0 hle
          go_wp2_with fail
          go_roundw
          case rel => exact ⟨m, b, l, bb, pp, M, rfl, rfl, rfl, rfl, rfl, by omega, hl0, hl1, HM'.out⟩
          case measure => simp [RowKit.intOf] <;> omega
theorem pdq_all (k : Nat) : PdqSaid k := by
  induction k with
  | zero => intro T g cap a b N l L _ _ _ _ _ h; omega
  | succ k ih => exact pdq_step k ih
end Go.Proofs.YtedllapajgcfeaaGreatDoor
