/-
  slices.partitionCmpFunc of floats by tally.Compare: walked.
-/
import Derived.Test.YtedllapajgcfeaaGreatDoorPq
import Derived.Deep.DeepCutAuto
import Derived.BigRegion
namespace Go.Proofs.YtedllapajgcfeaaGreatDoor
set_option linter.unusedVariables false
set_option linter.unusedSimpArgs false
open Go.RowKit Go.Proofs.YtedllapajgcfeaaGreatDoorW.PrintWords

/-- What a scan's test says: a bound and a comparison. -/
def Scan (T : List Value) (g : Nat) (w wx : World) (R : List Nat) (G C : Prop) (b : Bool) : Prop := RowF T wx g R ∧ Bx g w wx ∧ (b = true → G ∧ C) ∧ (b = false → ¬ (G ∧ C))
theorem scan_pos {T : List Value} {g : Nat} {w wx : World} {R : List Nat} {G A : Prop} {c : Int} (hr : RowF T wx g R) (hx : Bx g w wx) (hG : G) (hq : c < 0 ↔ A) : Scan T g w wx R G A (decide (c < 0)) :=
  ⟨hr, hx, fun h => ⟨hG, hq.1 (of_decide_eq_true h)⟩, fun h k => of_decide_eq_false h (hq.2 k.2)⟩
theorem scan_le {T : List Value} {g : Nat} {w wx : World} {R : List Nat} {G : Prop} {c u v : Int} (hr : RowF T wx g R) (hx : Bx g w wx) (hG : G) (hq : c < 0 ↔ u < v) : Scan T g w wx R G (v ≤ u) (!decide (c < 0)) := by
  refine ⟨hr, hx, fun h => ⟨hG, ?_⟩, fun h k => ?_⟩
  · refine Int.not_lt.1 fun k => ?_
    have := hq.2 k; rw [decide_eq_true this] at h; cases h
  · have : ¬ c < 0 := fun h' => by have := hq.1 h'; have := k.2; omega
    rw [decide_eq_false this] at h; cases h
/-- A partition under way: what is ahead of the pivot, what is not. -/
structure Pv (a b i e : Nat) (R : List Nat) : Prop where
  ai : a + 1 ≤ i
  ie : i ≤ e
  eb : e ≤ b
  lo : ∀ k, a + 1 ≤ k → k < i → rk (R.getD k 0) < rk (R.getD a 0)
  hi : ∀ k, e ≤ k → k < b → rk (R.getD a 0) ≤ rk (R.getD k 0)
theorem Pv.up {a b i e : Nat} {R : List Nat} (h : Pv a b i e R) (hi : i < e) (hl : rk (R.getD i 0) < rk (R.getD a 0)) : Pv a b (i + 1) e R :=
  ⟨by have := h.ai; omega, hi, h.eb, fun k h1 h2 => by by_cases c : k = i; (· subst c; exact hl); (· exact h.lo k h1 (by omega)), h.hi⟩
theorem Pv.down {a b i e : Nat} {R : List Nat} (h : Pv a b i (e + 1) R) (hi : i ≤ e) (hl : rk (R.getD a 0) ≤ rk (R.getD e 0)) : Pv a b i e R :=
  ⟨h.ai, hi, by have := h.eb; omega, h.lo, fun k h1 h2 => by by_cases c : k = e; (· subst c; omega); (· exact h.hi k (by omega) h2)⟩
theorem Pv.swap {a b i e : Nat} {R : List Nat} (h : Pv a b i (e + 1) R) (hi : i ≤ e) (hb : b ≤ R.length) (h1 : rk (R.getD a 0) ≤ rk (R.getD i 0)) (h2 : rk (R.getD e 0) < rk (R.getD a 0)) : Pv a b (i + 1) e (sw R i e) ∧ i < e := by
  have hlt : i < e := by
    rcases Nat.eq_or_lt_of_le hi with h3 | h3
    · subst h3; omega
    · exact h3
  have ha := h.ai
  have he := h.eb
  have s := fun k => sw_at R i e k (by omega) (by omega)
  refine ⟨⟨by omega, hlt, by omega, fun k k1 k2 => ?_, fun k k1 k2 => ?_⟩, hlt⟩
  · rw [s k, s a, if_neg (show ¬ a = e by omega), if_neg (show ¬ a = i by omega), if_neg (show ¬ k = e by omega)]
    by_cases c : k = i
    · rw [if_pos c]; exact h2
    · rw [if_neg c]; exact h.lo k k1 (by omega)
  · rw [s k, s a, if_neg (show ¬ a = e by omega), if_neg (show ¬ a = i by omega)]
    by_cases c : k = e
    · rw [if_pos c]; omega
    · rw [if_neg c, if_neg (by omega)]; exact h.hi k (by omega) k2
/-- A row parted by what stands at m. -/
def Parted (a b m : Nat) (M : List Nat) : Prop := (∀ i, a ≤ i → i < m → rk (M.getD i 0) ≤ rk (M.getD m 0)) ∧ ∀ i, m < i → i < b → rk (M.getD m 0) ≤ rk (M.getD i 0)
theorem Pv.done {a b e : Nat} {R : List Nat} (h : Pv a b (e + 1) (e + 1) R) (hb : b ≤ R.length) : Parted a b e (sw R e a) := by
  have ha := h.ai
  have he := h.eb
  have s := fun k => sw_at R e a k (by omega) (by omega)
  have hm : (sw R e a).getD e 0 = R.getD a 0 := by
    rw [s]
    by_cases c : e = a
    · rw [if_pos c, c]
    · rw [if_neg c, if_pos rfl]
  refine ⟨fun k k1 k2 => ?_, fun k k1 k2 => ?_⟩
  · rw [hm, s]
    by_cases c : k = a
    · rw [if_pos c]; exact Int.le_of_lt (h.lo e (by omega) (by omega))
    · rw [if_neg c, if_neg (by omega)]; exact Int.le_of_lt (h.lo k (by omega) (by omega))
  · rw [hm, s, if_neg (by omega), if_neg (by omega)]
    exact h.hi k (by omega) k2
def PartOut (T : List Value) (g a b : Nat) (L : List Nat) (w : World) (e : Ending) (w' : World) : Prop := ∃ (m : Nat) (bb : Bool), e = .returned (.tuple #[.int .i64 m, .bool bb]) ∧ a ≤ m ∧ m < b ∧ Tn T g a b L (Parted a b m) w w'
set_option maxRecDepth 100000 in
set_option maxHeartbeats 12800000 in
theorem part_any (T : List Value) (g cap a b pv N : Nat) (L : List Nat) (hN : L.length = N) (hL : N ≤ 1000) (h64 : Fin64 L) (hap : a ≤ pv) (hpb : pv < b) (hbl : b ≤ N) (w : World) (hg : RowF T w g L) :
    Calls Tryz.prog 92 #[.slice (some ⟨g, 0, none⟩) N cap, .int .i64 a, .int .i64 b, .int .i64 pv, .func (.func 9) #[] #[]] w (PartOut T g a b L w) := by
  have HG := Lib.hid (blk_lt hg)
  have HNN := Lib.hid hN
  have iua : (a : Int) < N := by omega
  have iva : (0 : Int) ≤ (a : Int) := by omega
  have iwa : IntKind.i64.wrap (a : Int) = (a : Int) := IntWalk.i64_in _ (by omega)
  have iup : (pv : Int) < N := by omega
  have ivp : (0 : Int) ≤ (pv : Int) := by omega
  have iwp : IntKind.i64.wrap (pv : Int) = (pv : Int) := IntWalk.i64_in _ (by omega)
  have wa : IntKind.i64.wrap ((a : Int) + 1) = (a : Int) + 1 := IntWalk.i64_in _ (by omega)
  obtain ⟨j, hjb⟩ : ∃ j : Nat, b = j + 1 := ⟨b - 1, by omega⟩
  have eb : (b : Int) - 1 = (j : Int) := by omega
  have wjb : IntKind.i64.wrap (j : Int) = (j : Int) := IntWalk.i64_in _ (by omega)
  have HB := Lib.hid hjb
  clear hjb
  obtain ⟨x, hx⟩ : ∃ x, L.getD a 0 = x := ⟨_, rfl⟩
  obtain ⟨y, hy⟩ : ∃ y, L.getD pv 0 = y := ⟨_, rfl⟩
  obtain ⟨d1, d2, d3, d4, d5, d6, d7, d8, d9, d10, d11, d12, HRd⟩ := swp_ctx hg a pv (by omega) (by omega) hx hy
  have HP0 := Lib.hid (sw_pm (a := a) (b := b) L a pv (by omega) (by omega) (by omega) (by omega) (by omega) (by omega))
  have HX0 := Lib.hid (bx_swp (Bx.refl g w) a pv (.float .f64 y) (.float .f64 x))
  clear hx hy hg hN
  go_enter Tryz.func92, Tryz.ntmps92
  go_wp2_with fail
  go_region
  have hRl : (sw L a pv).length = N := (sw_len _ _ _).trans HNN.out
  generalize sw L a pv = R at HRd HP0 hRl
  have HP := HP0
  clear HP0
  go_wp2_with fail
  go_loopw [12] (fun iv wr => ∃ i : Nat, iv = .int .i64 i ∧ 0 ≤ i ∧ Pv a b i (j + 1) R ∧ RowF T wr g R ∧ Bx g w wr) (fun iv _ => N + 1 - (RowKit.intOf iv).toNat)
  case atStart => exact ⟨a + 1, rfl, Nat.zero_le _, ⟨Nat.le_refl _, by have := HB.out; omega, by have := HB.out; omega, fun k h1 h2 => by omega, fun k h1 h2 => by have := HB.out; omega⟩, HRd.out, HX0.out⟩
  case round =>
    obtain ⟨i, rfl, hi4, HV, HR0, HX0⟩ := hrel
    obtain ⟨W0, hW0, HR⟩ : ∃ z, z = _ ∧ RowF T z g R := ⟨_, rfl, HR0⟩
    subst hW0
    have HXH := Lib.hid HX0
    have HVH := Lib.hid HV
    have hai := HV.ai
    have hie := HV.ie
    have heb := HV.eb
    have h64R : Fin64 R := HP.out.fin h64
    have wi0 : IntKind.i64.wrap (i : Int) = (i : Int) := IntWalk.i64_in _ (by omega)
    have wi1 : IntKind.i64.wrap ((i : Int) + 1) = (i : Int) + 1 := IntWalk.i64_in _ (by omega)
    have iv0 : (0 : Int) ≤ (i : Int) := by omega
    have jv0 : (0 : Int) ≤ (j : Int) := by omega
    clear HR0 HX0 HV
    go_upto_region 3 with (fail)
    go_cut [47] (fun cv wx => ∃ bb : Bool, cv = .bool bb ∧ Hid (Scan T g w wx R (i ≤ j) (rk (R.getD i 0) < rk (R.getD a 0)) bb))
    case first =>
      by_cases hij : i ≤ j
      · have t2 : decide ((i : Int) ≤ (j : Int)) = true := decide_eq_true (by omega)
        have ii0 : (i : Int) < N := by omega
        have ij0 : (j : Int) < N := by omega
        obtain ⟨x, y, c, ca, cb, HC, HCMP, HQ⟩ := cmp_ctx HR h64R i a (by rw [hRl]; omega) (by rw [hRl]; omega)
        have HRH := Lib.hid HR
        clear HR h64R
        go_region_held3 (fun z => Below W0.heap.size W0 z ∧ z.cell? ⟨g, i, none⟩ = some (.float .f64 x) ∧ z.cell? ⟨g, a, none⟩ = some (.float .f64 y)) ((refine ⟨?_, HC.out _ ?_⟩ <;> (repeat (first | (with_reducible exact Below.refl _ _) | (with_reducible refine Below.drew ?_) | (with_reducible refine bl_drewN ?_ _) | ((with_reducible apply bthen); rotate_left; assumption))))) ((go_at_call 9; (with_reducible refine (HCMP.out _).mono ?_); rintro e w3 ⟨rfl, B3⟩))
        all_goals
          go_wp2
          have hS := ‹Below W0.heap.size W0 w3 ∧ _›
          go_meet
          case rel =>
            first
              | exact ⟨decide (c < 0), rfl, Lib.hid (scan_pos (HRH.out.below hS.1) (HXH.out.call HG.out hS.1) hij HQ.out.1)⟩
              | exact ⟨!decide (c < 0), rfl, Lib.hid (scan_le (HRH.out.below hS.1) (HXH.out.call HG.out hS.1) hij HQ.out.1)⟩
      · have t2 : decide ((i : Int) ≤ (j : Int)) = false := decide_eq_false (by omega)
        have HRH := Lib.hid HR
        clear HR h64R
        go_quiet (fail)
        go_wp2
        go_meet
        case rel => exact ⟨false, rfl, Lib.hid ⟨HRH.out, HXH.out.drewN _, fun hb => Bool.noConfusion hb, fun _ h => hij h.1⟩⟩
    clear HR HXH
    obtain ⟨bb, rfl, HSC⟩ := hcut
    obtain ⟨W1, hW1, HR1⟩ : ∃ z, z = _ ∧ RowF T z g R := ⟨_, rfl, HSC.out.1⟩
    subst hW1
    have HX1 := Lib.hid HSC.out.2.1
    have HSC2 := Lib.hid HSC.out.2.2
    clear HSC
    cases bb
    rotate_left
    · obtain ⟨g1, g2⟩ := HSC2.out.1 rfl
      have hV := Lib.hid (HVH.out.up (by omega) g2)
      have HRZ := Lib.hid HR1
      clear g2 HR1
      go_wp2_with fail
      go_roundw
      case rel => exact ⟨i + 1, by go_num, by omega, hV.out, HRZ.out, HX1.out⟩
      case measure => simp [RowKit.intOf] <;> omega
    have HF : Hid (i ≤ j → rk (R.getD a 0) ≤ rk (R.getD i 0)) := Lib.hid (fun h => Int.not_lt.1 (fun k => HSC2.out.2 rfl ⟨h, k⟩))
    have HRZ := Lib.hid HR1
    clear HSC2 HR1
    clear HRd HX0 eb wjb
    go_wp2_with fail
    go_loopw [13] (fun jv wr => ∃ j : Nat, jv = .int .i64 j ∧ j ≤ N ∧ Pv a b i (j + 1) R ∧ Hid (i ≤ j → rk (R.getD a 0) ≤ rk (R.getD i 0)) ∧ RowF T wr g R ∧ Bx g w wr) (fun jv _ => (RowKit.intOf jv).toNat)
    case atStart => exact ⟨j, rfl, by omega, HVH.out, HF, HRZ.out, HX1.out⟩
    case round =>
      clear HVH HF HRZ HX1
      obtain ⟨j, rfl, hj4, HV, HF, HR0, HX0⟩ := hrel
      obtain ⟨W0, hW0, HR⟩ : ∃ z, z = _ ∧ RowF T z g R := ⟨_, rfl, HR0⟩
      subst hW0
      have HXH := Lib.hid HX0
      have HVH := Lib.hid HV
      have hie := HV.ie
      have heb := HV.eb
      have h64R : Fin64 R := HP.out.fin h64
      have wj0 : IntKind.i64.wrap (j : Int) = (j : Int) := IntWalk.i64_in _ (by omega)
      have jv1 : (0 : Int) ≤ (j : Int) := by omega
      clear HR0 HX0 HV
      go_upto_region 5 with (fail)
      go_cut [66] (fun cv wx => ∃ bb : Bool, cv = .bool bb ∧ Hid (Scan T g w wx R (i ≤ j) (rk (R.getD a 0) ≤ rk (R.getD j 0)) bb))
      case first =>
        by_cases hij : i ≤ j
        · have t2 : decide ((i : Int) ≤ (j : Int)) = true := decide_eq_true (by omega)
          have ii0 : (i : Int) < N := by omega
          have ij0 : (j : Int) < N := by omega
          obtain ⟨x, y, c, ca, cb, HC, HCMP, HQ⟩ := cmp_ctx HR h64R j a (by rw [hRl]; omega) (by rw [hRl]; omega)
          have HRH := Lib.hid HR
          clear HR h64R
          go_region_held3 (fun z => Below W0.heap.size W0 z ∧ z.cell? ⟨g, j, none⟩ = some (.float .f64 x) ∧ z.cell? ⟨g, a, none⟩ = some (.float .f64 y)) ((refine ⟨?_, HC.out _ ?_⟩ <;> (repeat (first | (with_reducible exact Below.refl _ _) | (with_reducible refine Below.drew ?_) | (with_reducible refine bl_drewN ?_ _) | ((with_reducible apply bthen); rotate_left; assumption))))) ((go_at_call 9; (with_reducible refine (HCMP.out _).mono ?_); rintro e w3 ⟨rfl, B3⟩))
          all_goals
            go_wp2
            have hS := ‹Below W0.heap.size W0 w3 ∧ _›
            go_meet
            case rel =>
              first
                | exact ⟨decide (c < 0), rfl, Lib.hid (scan_pos (HRH.out.below hS.1) (HXH.out.call HG.out hS.1) hij HQ.out.1)⟩
                | exact ⟨!decide (c < 0), rfl, Lib.hid (scan_le (HRH.out.below hS.1) (HXH.out.call HG.out hS.1) hij HQ.out.1)⟩
        · have t2 : decide ((i : Int) ≤ (j : Int)) = false := decide_eq_false (by omega)
          have HRH := Lib.hid HR
          clear HR h64R
          go_quiet (fail)
          go_wp2
          go_meet
          case rel => exact ⟨false, rfl, Lib.hid ⟨HRH.out, HXH.out.drewN _, fun hb => Bool.noConfusion hb, fun _ h => hij h.1⟩⟩
      clear HR HXH
      obtain ⟨bb, rfl, HSC⟩ := hcut
      obtain ⟨W1, hW1, HR1⟩ : ∃ z, z = _ ∧ RowF T z g R := ⟨_, rfl, HSC.out.1⟩
      subst hW1
      have HX1 := Lib.hid HSC.out.2.1
      have HSC2 := Lib.hid HSC.out.2.2
      clear HSC
      cases bb
      rotate_left
      · obtain ⟨g1, g2⟩ := HSC2.out.1 rfl
        have hV := Lib.hid (HVH.out.down (by omega) g2)
        obtain ⟨j', rfl⟩ : ∃ j', j = j' + 1 := ⟨j - 1, by omega⟩
        have wj1 : IntKind.i64.wrap (j' : Int) = (j' : Int) := IntWalk.i64_in _ (by omega)
        have HRZ := Lib.hid HR1
        clear g2 HR1 wj0
        go_wp2_with fail
        go_roundw
        case rel => exact ⟨j', rfl, by omega, hV.out, Lib.hid (fun h => HF.out (by omega)), HRZ.out, HX1.out⟩
        case measure => simp [RowKit.intOf] <;> omega
      have HG2 : Hid (i ≤ j → rk (R.getD j 0) < rk (R.getD a 0)) := Lib.hid (fun h => Int.not_le.1 (fun k => HSC2.out.2 rfl ⟨h, by omega⟩))
      clear HSC2
      by_cases hij : i ≤ j
      · skip
        have ii0 : (i : Int) < N := by omega
        have ij0 : (j : Int) < N := by omega
        have t3 : decide ((j : Int) < (i : Int)) = false := decide_eq_false (by omega)
        have hvs := HVH.out.swap hij (by rw [hRl]; omega) (HF.out hij) (HG2.out hij)
        have hlt := hvs.2
        have HVS := Lib.hid hvs.1
        have HPS : Hid (Pm a b L (sw R i j)) := Lib.hid (HP.out.trans (sw_pm R i j (by rw [hRl]; omega) (by rw [hRl]; omega) (by omega) (by omega) (by omega) (by omega)))
        have hsl : Hid ((sw R i j).length = N) := Lib.hid ((sw_len _ _ _).trans hRl)
        obtain ⟨j', rfl⟩ : ∃ j', j = j' + 1 := ⟨j - 1, by omega⟩
        have wj1 : IntKind.i64.wrap (j' : Int) = (j' : Int) := IntWalk.i64_in _ (by omega)
        obtain ⟨x, hx⟩ : ∃ x, R.getD i 0 = x := ⟨_, rfl⟩
        obtain ⟨y, hy⟩ : ∃ y, R.getD (j' + 1) 0 = y := ⟨_, rfl⟩
        obtain ⟨d1, d2, d3, d4, d5, d6, d7, d8, d9, d10, d11, d12, HRd⟩ := swp_ctx HR1 i (j' + 1) (by rw [hRl]; omega) (by rw [hRl]; omega) hx hy
        have HXd := Lib.hid (bx_swp HX1.out i (j' + 1) (.float .f64 y) (.float .f64 x))
        clear hx hy
        clear HR1 hvs
        go_wp2_with fail
        go_region
        all_goals
          go_wp2_with fail
          clear HVH HF HG2 HX1 HP
          go_loopw [12, 13] (fun iv jv wr => ∃ (i j : Nat) (R : List Nat), iv = .int .i64 i ∧ jv = .int .i64 j ∧ Pv a b i (j + 1) R ∧ RowF T wr g R ∧ Pm a b L R ∧ Bx g w wr) (fun iv jv _ => (RowKit.intOf jv + 1 - RowKit.intOf iv).toNat)
          case atStart => exact ⟨i + 1, j', _, by go_num, rfl, HVS.out, HRd.out, HPS.out, HXd.out⟩
          case round =>
            clear HVS HPS HRd HXd hRl
            obtain ⟨i, j, R, rfl, rfl, HV, HR0, HP0, HX0⟩ := hrel
            obtain ⟨W0, hW0, HR⟩ : ∃ z, z = _ ∧ RowF T z g R := ⟨_, rfl, HR0⟩
            subst hW0
            obtain ⟨i0, hi0⟩ : ∃ i0 : Nat, i0 = i := ⟨_, rfl⟩
            obtain ⟨j0, hj0⟩ : ∃ j0 : Nat, j0 = j := ⟨_, rfl⟩
            have HIJ := Lib.hid (And.intro hi0 hj0)
            have hle : i0 ≤ i ∧ j ≤ j0 ∧ j0 ≤ N := ⟨by omega, by omega, by have := HV.eb; omega⟩
            have HHH := Lib.hid (And.intro HV (And.intro HR HX0))
            have HP := Lib.hid HP0
            have hRl : R.length = N := HP0.len.trans HNN.out
            clear hi0 hj0 HV HR0 HR HX0 HP0
            go_wp2_with fail
            go_loopw [12] (fun iv wr => ∃ i : Nat, iv = .int .i64 i ∧ i0 ≤ i ∧ Pv a b i (j + 1) R ∧ RowF T wr g R ∧ Bx g w wr) (fun iv _ => N + 1 - (RowKit.intOf iv).toNat)
            case atStart => exact ⟨i, rfl, hle.1, HHH.out.1, HHH.out.2.1, HHH.out.2.2⟩
            case round =>
              obtain ⟨i, rfl, hi4, HV, HR0, HX0⟩ := hrel
              obtain ⟨W0, hW0, HR⟩ : ∃ z, z = _ ∧ RowF T z g R := ⟨_, rfl, HR0⟩
              subst hW0
              have HXH := Lib.hid HX0
              have HVH := Lib.hid HV
              have hai := HV.ai
              have hie := HV.ie
              have heb := HV.eb
              have h64R : Fin64 R := HP.out.fin h64
              have wi0 : IntKind.i64.wrap (i : Int) = (i : Int) := IntWalk.i64_in _ (by omega)
              have wi1 : IntKind.i64.wrap ((i : Int) + 1) = (i : Int) + 1 := IntWalk.i64_in _ (by omega)
              have iv0 : (0 : Int) ≤ (i : Int) := by omega
              have jv0 : (0 : Int) ≤ (j : Int) := by omega
              clear HR0 HX0 HV
              go_upto_region 13 with (fail)
              go_cut [120] (fun cv wx => ∃ bb : Bool, cv = .bool bb ∧ Hid (Scan T g w wx R (i ≤ j) (rk (R.getD i 0) < rk (R.getD a 0)) bb))
              case first =>
                by_cases hij : i ≤ j
                · have t2 : decide ((i : Int) ≤ (j : Int)) = true := decide_eq_true (by omega)
                  have ii0 : (i : Int) < N := by omega
                  have ij0 : (j : Int) < N := by omega
                  obtain ⟨x, y, c, ca, cb, HC, HCMP, HQ⟩ := cmp_ctx HR h64R i a (by rw [hRl]; omega) (by rw [hRl]; omega)
                  have HRH := Lib.hid HR
                  clear HR h64R
                  go_region_held3 (fun z => Below W0.heap.size W0 z ∧ z.cell? ⟨g, i, none⟩ = some (.float .f64 x) ∧ z.cell? ⟨g, a, none⟩ = some (.float .f64 y)) ((refine ⟨?_, HC.out _ ?_⟩ <;> (repeat (first | (with_reducible exact Below.refl _ _) | (with_reducible refine Below.drew ?_) | (with_reducible refine bl_drewN ?_ _) | ((with_reducible apply bthen); rotate_left; assumption))))) ((go_at_call 9; (with_reducible refine (HCMP.out _).mono ?_); rintro e w3 ⟨rfl, B3⟩))
                  all_goals
                    go_wp2
                    have hS := ‹Below W0.heap.size W0 w3 ∧ _›
                    go_meet
                    case rel =>
                      first
                        | exact ⟨decide (c < 0), rfl, Lib.hid (scan_pos (HRH.out.below hS.1) (HXH.out.call HG.out hS.1) hij HQ.out.1)⟩
                        | exact ⟨!decide (c < 0), rfl, Lib.hid (scan_le (HRH.out.below hS.1) (HXH.out.call HG.out hS.1) hij HQ.out.1)⟩
                · have t2 : decide ((i : Int) ≤ (j : Int)) = false := decide_eq_false (by omega)
                  have HRH := Lib.hid HR
                  clear HR h64R
                  go_quiet (fail)
                  go_wp2
                  go_meet
                  case rel => exact ⟨false, rfl, Lib.hid ⟨HRH.out, HXH.out.drewN _, fun hb => Bool.noConfusion hb, fun _ h => hij h.1⟩⟩
              clear HR HXH
              obtain ⟨bb, rfl, HSC⟩ := hcut
              obtain ⟨W1, hW1, HR1⟩ : ∃ z, z = _ ∧ RowF T z g R := ⟨_, rfl, HSC.out.1⟩
              subst hW1
              have HX1 := Lib.hid HSC.out.2.1
              have HSC2 := Lib.hid HSC.out.2.2
              clear HSC
              cases bb
              rotate_left
              · obtain ⟨g1, g2⟩ := HSC2.out.1 rfl
                have hV := Lib.hid (HVH.out.up (by omega) g2)
                have HRZ := Lib.hid HR1
                clear g2 HR1
                go_wp2_with fail
                go_roundw
                case rel => exact ⟨i + 1, by go_num, by omega, hV.out, HRZ.out, HX1.out⟩
                case measure => simp [RowKit.intOf] <;> omega
              have HF : Hid (i ≤ j → rk (R.getD a 0) ≤ rk (R.getD i 0)) := Lib.hid (fun h => Int.not_lt.1 (fun k => HSC2.out.2 rfl ⟨h, k⟩))
              have HRZ := Lib.hid HR1
              clear HSC2 HR1
              clear HHH
              go_wp2_with fail
              go_loopw [13] (fun jv wr => ∃ j : Nat, jv = .int .i64 j ∧ j ≤ j0 ∧ Pv a b i (j + 1) R ∧ Hid (i ≤ j → rk (R.getD a 0) ≤ rk (R.getD i 0)) ∧ RowF T wr g R ∧ Bx g w wr) (fun jv _ => (RowKit.intOf jv).toNat)
              case atStart => exact ⟨j, rfl, by omega, HVH.out, HF, HRZ.out, HX1.out⟩
              case round =>
                clear HVH HF HRZ HX1
                obtain ⟨j, rfl, hj4, HV, HF, HR0, HX0⟩ := hrel
                obtain ⟨W0, hW0, HR⟩ : ∃ z, z = _ ∧ RowF T z g R := ⟨_, rfl, HR0⟩
                subst hW0
                have HXH := Lib.hid HX0
                have HVH := Lib.hid HV
                have hie := HV.ie
                have heb := HV.eb
                have h64R : Fin64 R := HP.out.fin h64
                have wj0 : IntKind.i64.wrap (j : Int) = (j : Int) := IntWalk.i64_in _ (by omega)
                have jv1 : (0 : Int) ≤ (j : Int) := by omega
                clear HR0 HX0 HV
                go_upto_region 15 with (fail)
                go_cut [139] (fun cv wx => ∃ bb : Bool, cv = .bool bb ∧ Hid (Scan T g w wx R (i ≤ j) (rk (R.getD a 0) ≤ rk (R.getD j 0)) bb))
                case first =>
                  by_cases hij : i ≤ j
                  · have t2 : decide ((i : Int) ≤ (j : Int)) = true := decide_eq_true (by omega)
                    have ii0 : (i : Int) < N := by omega
                    have ij0 : (j : Int) < N := by omega
                    obtain ⟨x, y, c, ca, cb, HC, HCMP, HQ⟩ := cmp_ctx HR h64R j a (by rw [hRl]; omega) (by rw [hRl]; omega)
                    have HRH := Lib.hid HR
                    clear HR h64R
                    go_region_held3 (fun z => Below W0.heap.size W0 z ∧ z.cell? ⟨g, j, none⟩ = some (.float .f64 x) ∧ z.cell? ⟨g, a, none⟩ = some (.float .f64 y)) ((refine ⟨?_, HC.out _ ?_⟩ <;> (repeat (first | (with_reducible exact Below.refl _ _) | (with_reducible refine Below.drew ?_) | (with_reducible refine bl_drewN ?_ _) | ((with_reducible apply bthen); rotate_left; assumption))))) ((go_at_call 9; (with_reducible refine (HCMP.out _).mono ?_); rintro e w3 ⟨rfl, B3⟩))
                    all_goals
                      go_wp2
                      have hS := ‹Below W0.heap.size W0 w3 ∧ _›
                      go_meet
                      case rel =>
                        first
                          | exact ⟨decide (c < 0), rfl, Lib.hid (scan_pos (HRH.out.below hS.1) (HXH.out.call HG.out hS.1) hij HQ.out.1)⟩
                          | exact ⟨!decide (c < 0), rfl, Lib.hid (scan_le (HRH.out.below hS.1) (HXH.out.call HG.out hS.1) hij HQ.out.1)⟩
                  · have t2 : decide ((i : Int) ≤ (j : Int)) = false := decide_eq_false (by omega)
                    have HRH := Lib.hid HR
                    clear HR h64R
                    go_quiet (fail)
                    go_wp2
                    go_meet
                    case rel => exact ⟨false, rfl, Lib.hid ⟨HRH.out, HXH.out.drewN _, fun hb => Bool.noConfusion hb, fun _ h => hij h.1⟩⟩
                clear HR HXH
                obtain ⟨bb, rfl, HSC⟩ := hcut
                obtain ⟨W1, hW1, HR1⟩ : ∃ z, z = _ ∧ RowF T z g R := ⟨_, rfl, HSC.out.1⟩
                subst hW1
                have HX1 := Lib.hid HSC.out.2.1
                have HSC2 := Lib.hid HSC.out.2.2
                clear HSC
                cases bb
                rotate_left
                · obtain ⟨g1, g2⟩ := HSC2.out.1 rfl
                  have hV := Lib.hid (HVH.out.down (by omega) g2)
                  obtain ⟨j', rfl⟩ : ∃ j', j = j' + 1 := ⟨j - 1, by omega⟩
                  have wj1 : IntKind.i64.wrap (j' : Int) = (j' : Int) := IntWalk.i64_in _ (by omega)
                  have HRZ := Lib.hid HR1
                  clear g2 HR1 wj0
                  go_wp2_with fail
                  go_roundw
                  case rel => exact ⟨j', rfl, by omega, hV.out, Lib.hid (fun h => HF.out (by omega)), HRZ.out, HX1.out⟩
                  case measure => simp [RowKit.intOf] <;> omega
                have HG2 : Hid (i ≤ j → rk (R.getD j 0) < rk (R.getD a 0)) := Lib.hid (fun h => Int.not_le.1 (fun k => HSC2.out.2 rfl ⟨h, by omega⟩))
                clear HSC2
                by_cases hij : i ≤ j
                · skip
                  have ii0 : (i : Int) < N := by omega
                  have ij0 : (j : Int) < N := by omega
                  have t3 : decide ((j : Int) < (i : Int)) = false := decide_eq_false (by omega)
                  have hvs := HVH.out.swap hij (by rw [hRl]; omega) (HF.out hij) (HG2.out hij)
                  have hlt := hvs.2
                  have HVS := Lib.hid hvs.1
                  have HPS : Hid (Pm a b L (sw R i j)) := Lib.hid (HP.out.trans (sw_pm R i j (by rw [hRl]; omega) (by rw [hRl]; omega) (by omega) (by omega) (by omega) (by omega)))
                  have hsl : Hid ((sw R i j).length = N) := Lib.hid ((sw_len _ _ _).trans hRl)
                  obtain ⟨j', rfl⟩ : ∃ j', j = j' + 1 := ⟨j - 1, by omega⟩
                  have wj1 : IntKind.i64.wrap (j' : Int) = (j' : Int) := IntWalk.i64_in _ (by omega)
                  obtain ⟨x, hx⟩ : ∃ x, R.getD i 0 = x := ⟨_, rfl⟩
                  obtain ⟨y, hy⟩ : ∃ y, R.getD (j' + 1) 0 = y := ⟨_, rfl⟩
                  obtain ⟨d1, d2, d3, d4, d5, d6, d7, d8, d9, d10, d11, d12, HRd⟩ := swp_ctx HR1 i (j' + 1) (by rw [hRl]; omega) (by rw [hRl]; omega) hx hy
                  have HXd := Lib.hid (bx_swp HX1.out i (j' + 1) (.float .f64 y) (.float .f64 x))
                  clear hx hy
                  clear HR1 hvs
                  go_wp2_with fail
                  go_region
                  all_goals
                    go_wp2_with fail
                    clear HVH HF HG2 HX1 HP
                    go_roundw
                    case rel => exact ⟨i + 1, j', _, by go_num, rfl, HVS.out, HRd.out, HPS.out, HXd.out⟩
                    case measure => have := HIJ.out; simp [RowKit.intOf] <;> omega
                · skip
                  have hje : i = j + 1 := by omega
                  have ij0 : (j : Int) < N := by omega
                  have t3 : decide ((j : Int) < (i : Int)) = true := decide_eq_true (by omega)
                  have HVD : Hid (Parted a b j (sw R j a)) := Lib.hid (by have h := HVH.out; rw [hje] at h; exact h.done (by rw [hRl]; omega))
                  have HPD : Hid (Pm a b L (sw R j a)) := Lib.hid (HP.out.trans (sw_pm R j a (by rw [hRl]; omega) (by rw [hRl]; omega) (by omega) (by omega) (by omega) (by omega)))
                  obtain ⟨x, hx⟩ : ∃ x, R.getD j 0 = x := ⟨_, rfl⟩
                  obtain ⟨y, hy⟩ : ∃ y, R.getD a 0 = y := ⟨_, rfl⟩
                  obtain ⟨d1, d2, d3, d4, d5, d6, d7, d8, d9, d10, d11, d12, HRd⟩ := swp_ctx HR1 j a (by rw [hRl]; omega) (by rw [hRl]; omega) hx hy
                  have HXd := Lib.hid (bx_swp HX1.out j a (.float .f64 y) (.float .f64 x))
                  clear hx hy
                  clear HR1 hje
                  go_wp2_with fail
                  go_region
                  all_goals
                    go_wp2_with fail
                    refine bodyPost_ret (v := .tuple #[.int .i64 j, .bool false]) ?_ rfl ⟨j, false, rfl, by omega, by omega, _, HRd.out, HPD.out, HVD.out, HXd.out⟩
                    simp [results, Tryz.results92]
      · skip
        have hje : i = j + 1 := by omega
        have ij0 : (j : Int) < N := by omega
        have t3 : decide ((j : Int) < (i : Int)) = true := decide_eq_true (by omega)
        have HVD : Hid (Parted a b j (sw R j a)) := Lib.hid (by have h := HVH.out; rw [hje] at h; exact h.done (by rw [hRl]; omega))
        have HPD : Hid (Pm a b L (sw R j a)) := Lib.hid (HP.out.trans (sw_pm R j a (by rw [hRl]; omega) (by rw [hRl]; omega) (by omega) (by omega) (by omega) (by omega)))
        obtain ⟨x, hx⟩ : ∃ x, R.getD j 0 = x := ⟨_, rfl⟩
        obtain ⟨y, hy⟩ : ∃ y, R.getD a 0 = y := ⟨_, rfl⟩
        obtain ⟨d1, d2, d3, d4, d5, d6, d7, d8, d9, d10, d11, d12, HRd⟩ := swp_ctx HR1 j a (by rw [hRl]; omega) (by rw [hRl]; omega) hx hy
        have HXd := Lib.hid (bx_swp HX1.out j a (.float .f64 y) (.float .f64 x))
        clear hx hy
        clear HR1 hje
        go_wp2_with fail
        go_region
        all_goals
          go_wp2_with fail
          refine bodyPost_ret (v := .tuple #[.int .i64 j, .bool true]) ?_ rfl ⟨j, true, rfl, by omega, by omega, _, HRd.out, HPD.out, HVD.out, HXd.out⟩
          simp [results, Tryz.results92]
end Go.Proofs.YtedllapajgcfeaaGreatDoor
