/-
  tree.set: walked.
-/
import Derived.Test.YtebkaajnnjfhjaaDoorOne
import Derived.Test.YtebkaajnnjfhjaaDoorRuns
namespace Go.Proofs.YtebkaajnnjfhjaaDoor
set_option linter.unusedVariables false
set_option linter.unusedSimpArgs false
open Go.RowKit Go.Proofs.YtebkaajnnjfhjaaDoorW.PrintWords

theorem bl_drewN {B : Nat} {a w : World} (h : Below B a w) (n : Nat) : Below B a (w.drewN n) := ⟨h.os, h.tape, h.output, h.size, h.block⟩
theorem pset_gen (s : W4) (h1 : (Tr.mems s).length ≠ 256) (h2 : (Tr.mems s).length ≠ 1) : Tr.pset s = 91 :: ((Tr.runs (Tr.mems s)).flatMap Tr.prun ++ [93]) := by
  unfold Tr.pset
  rw [if_neg h1]
  split
  · rename_i c e; rw [e] at h2; simp at h2
  · rfl
set_option maxRecDepth 100000 in
set_option maxHeartbeats 3200000 in
theorem set_any (s : W4) (hs : s.Ok) (w : World) (hL : Laid w) : Calls Tryd.prog 44 #[.agg #[.int .u64 s.a, .int .u64 s.b, .int .u64 s.c, .int .u64 s.d]] w fun e w' => e = .returned (.string ⟨(Tr.pset s).toArray⟩) ∧ Below w.heap.size w w' := by
  have HLI := Lib.hid (list_any s hs (w.alloc (.cells #[.int .u64 s.a, .int .u64 s.b, .int .u64 s.c, .int .u64 s.d] 24)) (hL.below (by (repeat (first | exact Below.refl _ _ | assumption | refine Below.drew ?_ | refine Below.alloc ?_ (by first | exact Nat.le_refl _ | (simp; done) | (simp; omega) | omega) _ | refine Below.setCell ?_ (by first | exact Nat.le_refl _ | (simp; done) | (simp; omega) | omega) _)))))
  have hml := Tr.mems_len s
  by_cases h256 : (Tr.mems s).length = 256
  · have HP : Hid (Tr.pset s = [46]) := Lib.hid (by unfold Tr.pset; rw [if_pos h256])
    rw [HP.out]
    generalize Tr.mems s = l at HLI h256 hml
    clear HP
    go_enter Tryd.func44, Tryd.ntmps44
    go_wp2_with fail
    refine (HLI.out).mono ?_
    rintro e w1 ⟨v, rfl, HO, B1⟩
    have hsl := own_slice HO
    rw [bts_len, h256] at hsl
    obtain ⟨A, c, rfl⟩ := hsl
    have HB := bthen ((Below.refl _ _).alloc (Nat.le_refl _) _) B1
    clear HO B1 HLI
    go_wp2_with fail
    go_ret
    exact ⟨rfl, HB⟩
  by_cases h1 : (Tr.mems s).length = 1
  · obtain ⟨c, hc⟩ : ∃ c, Tr.mems s = [c] := List.length_eq_one_iff.1 h1
    have HP : Hid (Tr.pset s = Tr.one c [38, 33, 124, 42, 43, 63, 123, 125, 91, 93, 40, 41, 46, 92]) := Lib.hid (by unfold Tr.pset; rw [if_neg h256, hc]; rfl)
    rw [HP.out]
    rw [hc] at HLI
    clear h1 h256 hml hc HP
    have H1 := Lib.hid (one_any c [38, 33, 124, 42, 43, 63, 123, 125, 91, 93, 40, 41, 46, 92] (by decide))
    generalize Tr.one c [38, 33, 124, 42, 43, 63, 123, 125, 91, 93, 40, 41, 46, 92] = r at H1 ⊢
    go_enter Tryd.func44, Tryd.ntmps44
    go_wp2_with fail
    refine (HLI.out).mono ?_
    rintro e w1 ⟨v, rfl, HO, B1⟩
    obtain ⟨g, cap, rfl, hgb, hgl⟩ := HO.form (by simp [bts])
    have hc0 : w1.cell? ⟨g, 0, none⟩ = some (.int .u8 c.toNat) := HO.cells (g := g) rfl 0 _ rfl
    have e1 : (bts [c]).length = 1 := rfl
    rw [e1]
    have HB := bthen ((Below.refl _ _).alloc (Nat.le_refl _) _) B1
    clear HO B1 HLI
    go_wp2_with fail
    refine (H1.out _).mono ?_
    rintro e w2 ⟨rfl, B2⟩
    go_wp2_with fail
    go_ret
    exact ⟨rfl, HB.trans (B2.mono HB.size)⟩
  have HP := Lib.hid (pset_gen s h256 h1)
  rw [HP.out]
  clear HP
  generalize Tr.mems s = l at HLI h256 h1 hml ⊢
  have n256 : ((l.length : Int) == 256) = false := beq_f (by omega)
  have n1 : ((l.length : Int) == 1) = false := beq_f (by omega)
  clear h256 h1
  by_cases h0 : l.length = 0
  · obtain rfl : l = [] := List.eq_nil_of_length_eq_zero h0
    clear h0 n256 n1 hml
    go_enter Tryd.func44, Tryd.ntmps44
    go_wp2_with fail
    refine (HLI.out).mono ?_
    rintro e w1 ⟨v, rfl, HO, B1⟩
    have hsl := own_slice HO
    have e0 : (bts []).length = 0 := rfl
    rw [e0] at hsl
    obtain ⟨A, c, rfl⟩ := hsl
    have HB := bthen ((Below.refl _ _).alloc (Nat.le_refl _) _) B1
    clear HO B1 HLI
    go_wp2_with fail
    refine wp_loop_rounds 1 ?_
    rw [rounds_succ]
    go_wp2_with fail
    go_ret
    exact ⟨rfl, HB⟩
  go_enter Tryd.func44, Tryd.ntmps44
  go_wp2_with fail
  refine (HLI.out).mono ?_
  rintro e w1 ⟨v, rfl, HO, B1⟩
  obtain ⟨g, cap, rfl, hgb, hgl⟩ := HO.form (by rw [bts_len]; omega)
  have HC : Hid (∀ j (h : j < l.length), w1.cell? ⟨g, j, none⟩ = some (.int .u8 l[j].toNat)) := Lib.hid fun j h => by
    have ha : (⟨g, 0, none⟩ : Addr).add j = ⟨g, j, none⟩ := by unfold Addr.add; split <;> simp_all
    have := HO.cells (g := g) rfl j (.int .u8 l[j].toNat) (by simp [nums, bts, h])
    rwa [ha] at this
  rw [bts_len]
  have HB := bthen ((Below.refl _ _).alloc (Nat.le_refl _) _) B1
  clear HO B1 HLI
  have H1 := Lib.hid (fun c w => one_any c [92, 93, 94, 45] (by decide) w)
  go_wp2_with fail
  go_loopw [5, 4] (fun iv ov wr => ∃ (i : Nat) (out : List UInt8), i ≤ l.length ∧ iv = .int .i64 i ∧ ov = .string ⟨out.toArray⟩ ∧ Below w1.heap.size w1 wr ∧ out.length ≤ 1 + 9 * i ∧ Hid (out ++ (Tr.runs (l.drop i)).flatMap Tr.prun = 91 :: (Tr.runs l).flatMap Tr.prun)) (fun iv _ _ => l.length - (RowKit.intOf iv).toNat)
  case atStart => exact ⟨0, [91], by omega, rfl, rfl, Below.refl _ _, by simp, Lib.hid rfl⟩
  case round =>
    obtain ⟨i, out, hi, rfl, rfl, HB2, hol, HD⟩ := hrel
    by_cases hlt : i < l.length
    · have hgi : ∀ wx, Below w1.heap.size w1 wx → wx.cell? ⟨g, i, none⟩ = some (.int .u8 l[i].toNat) := fun wx hb => (hb.cell (p := ⟨g, i, none⟩) hgl).trans (HC.out i hlt)
      have HGI := Lib.hid hgi
      have hx := l[i].toNat_lt
      clear hgi
      generalize ha : l[i] = a at HGI hx
      have HA := Lib.hid ha
      clear ha
      go_wp2_with fail
      go_loopw [6] (fun kv wi => ∃ k : Nat, i < k ∧ k ≤ l.length ∧ kv = .int .i64 k ∧ Below w1.heap.size w1 wi ∧ Hid (∀ j (h : j < l.length), i ≤ j → j < k → l[j].toNat = a.toNat + (j - i))) (fun kv _ => l.length - (RowKit.intOf kv).toNat)
      case atStart =>
        refine ⟨i + 1, by omega, by omega, by go_num, HB2, Lib.hid fun j h h1 h2 => ?_⟩
        have : j = i := by omega
        subst this
        rw [HA.out]; omega
      case round =>
        clear HB2
        obtain ⟨k, hik, hk, rfl, HB3, HR⟩ := hrel
        have hci := HGI.out _ HB3
        have i0 : (0 : Int) ≤ (i : Int) := by omega
        have i1 : (i : Int) < (l.length : Int) := by omega
        have k0 : (0 : Int) ≤ (k : Int) := by omega
        have W1 : IntKind.i64.wrap ((a.toNat : Int) + (k : Int)) = (a.toNat : Int) + k := IntWalk.i64_in _ (by omega)
        have W2 : IntKind.i64.wrap ((a.toNat : Int) + (k : Int) - (i : Int)) = (a.toNat : Int) + k - i := IntWalk.i64_in _ (by omega)
        by_cases hkl : k < l.length
        · have hck : wr.cell? ⟨g, k, none⟩ = some (.int .u8 l[k].toNat) := (HB3.cell (p := ⟨g, k, none⟩) hgl).trans (HC.out k hkl)
          have k1 : (k : Int) < (l.length : Int) := by omega
          have k2 : decide (k < l.length) = true := decide_eq_true hkl
          have k3 : decide ((k : Int) < (l.length : Int)) = true := decide_eq_true k1
          have hy := l[k].toNat_lt
          have hrk : Hid (l[k].toNat = a.toNat + (k - i) → ∀ j (h : j < l.length), i ≤ j → j < k + 1 → l[j].toNat = a.toNat + (j - i)) := Lib.hid fun e j h h1 h2 => by
            by_cases hj : j = k
            · subst hj; exact e
            · exact HR.out j h h1 (by omega)
          have hrn : Hid (l[k].toNat ≠ a.toNat + (k - i) → Tr.runs (l.drop i) = (a, l[k - 1]'(by omega)) :: Tr.runs (l.drop k)) := Lib.hid fun e => by
            have := Tr.runs_from l i k hik hk (fun j h h1 h2 => by rw [HA.out]; exact HR.out j h h1 h2) (fun _ => by rw [HA.out]; exact e)
            rw [this, HA.out]
          generalize l[k] = b at hck hy hrk hrn
          cases hcmp : ((b.toNat : Int) == (a.toNat : Int) + k - i)
          · have hne : Hid (b.toNat ≠ a.toNat + (k - i)) := Lib.hid fun e => by
              rw [beq_eq_false_iff_ne] at hcmp
              omega
            have HE := Lib.hid (hrn.out hne.out)
            have HZ := Lib.hid (HR.out (k - 1) (by omega) (by omega) (by omega))
            have HZC : Hid (w1.cell? ⟨g, k - 1, none⟩ = some (.int .u8 (l[k - 1]'(by omega)).toNat)) := Lib.hid (HC.out (k - 1) (by omega))
            generalize l[k - 1]'(by omega) = z at HE HZ HZC
            clear hrk hrn hne
            have hzc : z.toNat = a.toNat + (k - 1 - i) := HZ.out
            have HPS := Lib.hid (Tr.prun_steps a z i k hik hzc)
            have HA1 := Lib.hid (H1.out a)
            have HZ1 := Lib.hid (H1.out z)
            have la := Tr.one_len4 a [92, 93, 94, 45]
            have lz := Tr.one_len4 z [92, 93, 94, 45]
            have HPA : Hid (Tr.one a [92, 93, 94, 45] = Tr.one a Tr.inside) := Lib.hid rfl
            have HPZ : Hid (Tr.one z [92, 93, 94, 45] = Tr.one z Tr.inside) := Lib.hid rfl
            generalize Tr.one a [92, 93, 94, 45] = oa at HA1 la HPA
            generalize Tr.one z [92, 93, 94, 45] = oz at HZ1 lz HPZ
            have sz1 : ¬ 9223372036854775807 < out.length + oa.length := by omega
            have sz2 : ¬ 9223372036854775807 < out.length + (oa.length + 1) := by omega
            have sz3 : ¬ 9223372036854775807 < out.length + (oa.length + oz.length) := by omega
            have sz4 : ¬ 9223372036854775807 < out.length + (oa.length + (oz.length + 1)) := by omega
            have sz5 : ¬ 9223372036854775807 < out.length + oa.length + oz.length := by omega
            have sz6 : ¬ 9223372036854775807 < out.length + (oa.length + 1) + oz.length := by omega
            clear hzc
            have h3 : k = i + 1 ∨ k = i + 2 ∨ i + 2 < k := by omega
            rcases h3 with h3 | h3 | h3
            · have q1 : decide ((i : Int) + 2 < (k : Int)) = false := decide_eq_false (by omega)
              have q2 : decide ((i : Int) + 1 < (k : Int)) = false := decide_eq_false (by omega)
              rw [if_neg (by omega), if_neg (by omega)] at HPS
              clear h3
              go_wp2_with fail
              go_quiet (fail)
              go_wp2_with fail
              refine (HA1.out _).mono ?_
              rintro e w2 ⟨rfl, B2⟩
              have HB4 := (bl_drewN HB3 _).trans (B2.mono HB3.size)
              clear HA1 HZ1 H1
              go_wp2_with fail
              go_roundw
              case rel =>
                refine ⟨k, _, hk, rfl, rfl, HB4, ?_, Lib.hid ?_⟩
                · simp; omega
                · rw [← HD.out, HE.out, List.flatMap_cons, HPS.out, HPA.out]; simp
              case measure => simp [RowKit.intOf]; omega
            · have q1 : decide ((i : Int) + 2 < (k : Int)) = false := decide_eq_false (by omega)
              have q2 : decide ((i : Int) + 1 < (k : Int)) = true := decide_eq_true (by omega)
              rw [if_neg (by omega), if_pos (by omega)] at HPS
              clear h3
              have hzcell : wr.cell? ⟨g, k - 1, none⟩ = some (.int .u8 z.toNat) := (HB3.cell (p := ⟨g, k - 1, none⟩) hgl).trans HZC.out
              go_wp2_with fail
              go_quiet (fail)
              go_wp2_with fail
              refine (HA1.out _).mono ?_
              rintro e w2 ⟨rfl, B2⟩
              have HB4 := (bl_drewN HB3 _).trans (B2.mono HB3.size)
              have hzcell2 : w2.cell? ⟨g, k - 1, none⟩ = some (.int .u8 z.toNat) := (HB4.cell (p := ⟨g, k - 1, none⟩) hgl).trans HZC.out
              clear HA1 H1 hzcell
              have j0 : (0 : Int) ≤ (k : Int) - 1 := by omega
              have j1 : (k : Int) - 1 < (l.length : Int) := by omega
              have j2 : ((k : Int) - 1).toNat = k - 1 := by omega
              go_wp2_with fail
              refine (HZ1.out _).mono ?_
              rintro e w3 ⟨rfl, B3⟩
              have HB5 := HB4.trans (B3.mono HB4.size)
              clear HZ1 hzcell2
              go_wp2_with fail
              go_roundw
              case rel =>
                refine ⟨k, _, hk, rfl, rfl, HB5, ?_, Lib.hid ?_⟩
                · simp; omega
                · rw [← HD.out, HE.out, List.flatMap_cons, HPS.out, HPA.out, HPZ.out]; simp
              case measure => simp [RowKit.intOf]; omega
            · have q1 : decide ((i : Int) + 2 < (k : Int)) = true := decide_eq_true (by omega)
              have q2 : decide ((i : Int) + 1 < (k : Int)) = true := decide_eq_true (by omega)
              rw [if_pos (by omega), if_pos (by omega)] at HPS
              clear h3
              have hzcell : wr.cell? ⟨g, k - 1, none⟩ = some (.int .u8 z.toNat) := (HB3.cell (p := ⟨g, k - 1, none⟩) hgl).trans HZC.out
              go_wp2_with fail
              go_quiet (fail)
              go_wp2_with fail
              refine (HA1.out _).mono ?_
              rintro e w2 ⟨rfl, B2⟩
              have HB4 := (bl_drewN HB3 _).trans (B2.mono HB3.size)
              have hzcell2 : w2.cell? ⟨g, k - 1, none⟩ = some (.int .u8 z.toNat) := (HB4.cell (p := ⟨g, k - 1, none⟩) hgl).trans HZC.out
              clear HA1 H1 hzcell
              have j0 : (0 : Int) ≤ (k : Int) - 1 := by omega
              have j1 : (k : Int) - 1 < (l.length : Int) := by omega
              have j2 : ((k : Int) - 1).toNat = k - 1 := by omega
              go_wp2_with fail
              refine (HZ1.out _).mono ?_
              rintro e w3 ⟨rfl, B3⟩
              have HB5 := HB4.trans (B3.mono HB4.size)
              clear HZ1 hzcell2
              go_wp2_with fail
              go_roundw
              case rel =>
                refine ⟨k, _, hk, rfl, rfl, HB5, ?_, Lib.hid ?_⟩
                · simp; omega
                · rw [← HD.out, HE.out, List.flatMap_cons, HPS.out, HPA.out, HPZ.out]; simp
              case measure => simp [RowKit.intOf]; omega
          · go_wp2_with fail
            go_quiet (fail)
            go_wp2_with fail
            go_roundw
            case rel =>
              refine ⟨k + 1, by omega, by omega, by go_num, bl_drewN HB3 _, Lib.hid (hrk.out ?_)⟩
              rw [beq_iff_eq] at hcmp
              omega
            case measure => simp [RowKit.intOf]; omega
        · have k2 : decide (k < l.length) = false := decide_eq_false hkl
          have k3 : decide ((k : Int) < (l.length : Int)) = false := decide_eq_false (by omega)
          have HE := Lib.hid (show Tr.runs (l.drop i) = (a, l[k - 1]'(by omega)) :: Tr.runs (l.drop k) by
            have := Tr.runs_from l i k hik hk (fun j h h1 h2 => by rw [HA.out]; exact HR.out j h h1 h2) (fun h => absurd h hkl)
            rw [this, HA.out])
          have HZ := Lib.hid (HR.out (k - 1) (by omega) (by omega) (by omega))
          have HZC : Hid (w1.cell? ⟨g, k - 1, none⟩ = some (.int .u8 (l[k - 1]'(by omega)).toNat)) := Lib.hid (HC.out (k - 1) (by omega))
          generalize l[k - 1]'(by omega) = z at HE HZ HZC
          have hzc : z.toNat = a.toNat + (k - 1 - i) := HZ.out
          have HPS := Lib.hid (Tr.prun_steps a z i k hik hzc)
          have HA1 := Lib.hid (H1.out a)
          have HZ1 := Lib.hid (H1.out z)
          have la := Tr.one_len4 a [92, 93, 94, 45]
          have lz := Tr.one_len4 z [92, 93, 94, 45]
          have HPA : Hid (Tr.one a [92, 93, 94, 45] = Tr.one a Tr.inside) := Lib.hid rfl
          have HPZ : Hid (Tr.one z [92, 93, 94, 45] = Tr.one z Tr.inside) := Lib.hid rfl
          generalize Tr.one a [92, 93, 94, 45] = oa at HA1 la HPA
          generalize Tr.one z [92, 93, 94, 45] = oz at HZ1 lz HPZ
          have sz1 : ¬ 9223372036854775807 < out.length + oa.length := by omega
          have sz2 : ¬ 9223372036854775807 < out.length + (oa.length + 1) := by omega
          have sz3 : ¬ 9223372036854775807 < out.length + (oa.length + oz.length) := by omega
          have sz4 : ¬ 9223372036854775807 < out.length + (oa.length + (oz.length + 1)) := by omega
          have sz5 : ¬ 9223372036854775807 < out.length + oa.length + oz.length := by omega
          have sz6 : ¬ 9223372036854775807 < out.length + (oa.length + 1) + oz.length := by omega
          clear hzc
          have h3 : k = i + 1 ∨ k = i + 2 ∨ i + 2 < k := by omega
          rcases h3 with h3 | h3 | h3
          · have q1 : decide ((i : Int) + 2 < (k : Int)) = false := decide_eq_false (by omega)
            have q2 : decide ((i : Int) + 1 < (k : Int)) = false := decide_eq_false (by omega)
            rw [if_neg (by omega), if_neg (by omega)] at HPS
            clear h3
            go_wp2_with fail
            go_quiet (fail)
            go_wp2_with fail
            refine (HA1.out _).mono ?_
            rintro e w2 ⟨rfl, B2⟩
            have HB4 := (bl_drewN HB3 _).trans (B2.mono HB3.size)
            clear HA1 HZ1 H1
            go_wp2_with fail
            go_roundw
            case rel =>
              refine ⟨k, _, hk, rfl, rfl, HB4, ?_, Lib.hid ?_⟩
              · simp; omega
              · rw [← HD.out, HE.out, List.flatMap_cons, HPS.out, HPA.out]; simp
            case measure => simp [RowKit.intOf]; omega
          · have q1 : decide ((i : Int) + 2 < (k : Int)) = false := decide_eq_false (by omega)
            have q2 : decide ((i : Int) + 1 < (k : Int)) = true := decide_eq_true (by omega)
            rw [if_neg (by omega), if_pos (by omega)] at HPS
            clear h3
            have hzcell : wr.cell? ⟨g, k - 1, none⟩ = some (.int .u8 z.toNat) := (HB3.cell (p := ⟨g, k - 1, none⟩) hgl).trans HZC.out
            go_wp2_with fail
            go_quiet (fail)
            go_wp2_with fail
            refine (HA1.out _).mono ?_
            rintro e w2 ⟨rfl, B2⟩
            have HB4 := (bl_drewN HB3 _).trans (B2.mono HB3.size)
            have hzcell2 : w2.cell? ⟨g, k - 1, none⟩ = some (.int .u8 z.toNat) := (HB4.cell (p := ⟨g, k - 1, none⟩) hgl).trans HZC.out
            clear HA1 H1 hzcell
            have j0 : (0 : Int) ≤ (k : Int) - 1 := by omega
            have j1 : (k : Int) - 1 < (l.length : Int) := by omega
            have j2 : ((k : Int) - 1).toNat = k - 1 := by omega
            go_wp2_with fail
            refine (HZ1.out _).mono ?_
            rintro e w3 ⟨rfl, B3⟩
            have HB5 := HB4.trans (B3.mono HB4.size)
            clear HZ1 hzcell2
            go_wp2_with fail
            go_roundw
            case rel =>
              refine ⟨k, _, hk, rfl, rfl, HB5, ?_, Lib.hid ?_⟩
              · simp; omega
              · rw [← HD.out, HE.out, List.flatMap_cons, HPS.out, HPA.out, HPZ.out]; simp
            case measure => simp [RowKit.intOf]; omega
          · have q1 : decide ((i : Int) + 2 < (k : Int)) = true := decide_eq_true (by omega)
            have q2 : decide ((i : Int) + 1 < (k : Int)) = true := decide_eq_true (by omega)
            rw [if_pos (by omega), if_pos (by omega)] at HPS
            clear h3
            have hzcell : wr.cell? ⟨g, k - 1, none⟩ = some (.int .u8 z.toNat) := (HB3.cell (p := ⟨g, k - 1, none⟩) hgl).trans HZC.out
            go_wp2_with fail
            go_quiet (fail)
            go_wp2_with fail
            refine (HA1.out _).mono ?_
            rintro e w2 ⟨rfl, B2⟩
            have HB4 := (bl_drewN HB3 _).trans (B2.mono HB3.size)
            have hzcell2 : w2.cell? ⟨g, k - 1, none⟩ = some (.int .u8 z.toNat) := (HB4.cell (p := ⟨g, k - 1, none⟩) hgl).trans HZC.out
            clear HA1 H1 hzcell
            have j0 : (0 : Int) ≤ (k : Int) - 1 := by omega
            have j1 : (k : Int) - 1 < (l.length : Int) := by omega
            have j2 : ((k : Int) - 1).toNat = k - 1 := by omega
            go_wp2_with fail
            refine (HZ1.out _).mono ?_
            rintro e w3 ⟨rfl, B3⟩
            have HB5 := HB4.trans (B3.mono HB4.size)
            clear HZ1 hzcell2
            go_wp2_with fail
            go_roundw
            case rel =>
              refine ⟨k, _, hk, rfl, rfl, HB5, ?_, Lib.hid ?_⟩
              · simp; omega
              · rw [← HD.out, HE.out, List.flatMap_cons, HPS.out, HPA.out, HPZ.out]; simp
            case measure => simp [RowKit.intOf]; omega
    · go_wp2_with fail
      go_ret
      refine ⟨ret_str ?_, HB.trans (HB2.mono HB.size)⟩
      have e := HD.out
      rw [List.drop_eq_nil_of_le (by omega)] at e
      have e2 : out = 91 :: (Tr.runs l).flatMap Tr.prun := by simpa [Tr.runs] using e
      rw [e2]; simp
end Go.Proofs.YtebkaajnnjfhjaaDoor
