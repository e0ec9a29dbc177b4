/-
  The document's own answers for layer 20: userinfo and schemes.
-/
import Derived.Test.YtpccfagbmbbpkaaRefB
namespace Go.Proofs.Ytpccfagbmbbpkaa
open Go.RowKit Go.Proofs.YtpccfagbmbbpkaaW.PrintWords


theorem usrA_step (l : Pc.B) (t k : Nat) (h : k < t) (ht : t ≤ l.length) : Gu.usrA (lef l t k) = ((Gu.pln l[k].toNat || Gu.mem Gu.usrB l[k].toNat) && Gu.usrA (lef l t (k + 1))) := by
  rw [lef_cons l t k h ht]; rfl
set_option maxRecDepth 100000 in
set_option maxHeartbeats 1600000 in
theorem user_any (l : Pc.B) (hl : l.length ≤ 1000000) (f t : Nat) (hf : f ≤ t) (ht : t ≤ l.length) (w : World) : Calls Try.prog 31 #[.string ⟨l.toArray⟩, .int .i64 f, .int .i64 t] w fun e w' => e = .returned (.bool (Gu.usr (lef l t f))) ∧ w = w' := by
  have HU : Hid (Gu.usr (lef l t f) = (Gu.usrA (lef l t f) && Pc.valid (lef l t f))) := Lib.hid rfl
  have HE := Lib.hid (fun w => escapes_any l hl f t hf ht w)
  go_enter Try.func31, Try.ntmps31
  go_wp2
  go_loop [7] (fun i => ∃ k : Nat, k ≤ t ∧ i = .int .i64 k ∧ Hid (Gu.usrA (lef l t f) = Gu.usrA (lef l t k))) (fun i => t - (intOf i).toNat)
  case atStart => exact ⟨f, hf, rfl, Lib.hid rfl⟩
  case round =>
    obtain ⟨k, hk, rfl, HV⟩ := hrel
    by_cases hlt : k < t
    · have hkl : k < l.length := by omega
      have hd := Lib.hid (usrA_step l t k hlt ht)
      cases oL : Gu.ltr l[k].toNat
      · cases oD : Gu.dgt l[k].toNat
        · cases oM : Gu.mem Gu.usrB l[k].toNat
          · have FE := Lib.hid (show (Gu.pln l[k].toNat || Gu.mem Gu.usrB l[k].toNat) = false by unfold Gu.pln; rw [oL, oD, oM]; rfl)
            go_wp2_with fail
            refine (letter_any l[k].toNat _).mono ?_
            rw [oL]
            rintro e w' ⟨rfl, rfl⟩
            go_wp2_with fail
            refine (digit_any l[k].toNat _).mono ?_
            rw [oD]
            rintro e w' ⟨rfl, rfl⟩
            go_wp2_with fail
            refine (is_any l[k].toNat Gu.usrB (by decide) _).mono ?_
            rw [oM]
            rintro e w' ⟨rfl, rfl⟩
            go_wp2_with fail
            go_ret
            refine ⟨ret_bool ?_, rfl⟩
            rw [HU.out, HV.out, hd.out, FE.out]; rfl
          · have FE := Lib.hid (show (Gu.pln l[k].toNat || Gu.mem Gu.usrB l[k].toNat) = true by rw [oM]; simp)
            go_wp2_with fail
            refine (letter_any l[k].toNat _).mono ?_
            rw [oL]
            rintro e w' ⟨rfl, rfl⟩
            go_wp2_with fail
            refine (digit_any l[k].toNat _).mono ?_
            rw [oD]
            rintro e w' ⟨rfl, rfl⟩
            go_wp2_with fail
            refine (is_any l[k].toNat Gu.usrB (by decide) _).mono ?_
            rw [oM]
            rintro e w' ⟨rfl, rfl⟩
            go_wp2_with fail
            go_round
            case rel =>
              refine ⟨k + 1, by omega, by go_num, Lib.hid ?_⟩
              rw [HV.out, hd.out, FE.out]; rfl
            case measure => simp [intOf]; omega
        · have FE := Lib.hid (show (Gu.pln l[k].toNat || Gu.mem Gu.usrB l[k].toNat) = true by unfold Gu.pln; rw [oD]; simp)
          go_wp2_with fail
          refine (letter_any l[k].toNat _).mono ?_
          rw [oL]
          rintro e w' ⟨rfl, rfl⟩
          go_wp2_with fail
          refine (digit_any l[k].toNat _).mono ?_
          rw [oD]
          rintro e w' ⟨rfl, rfl⟩
          go_wp2_with fail
          go_round
          case rel =>
            refine ⟨k + 1, by omega, by go_num, Lib.hid ?_⟩
            rw [HV.out, hd.out, FE.out]; rfl
          case measure => simp [intOf]; omega
      · have FE := Lib.hid (show (Gu.pln l[k].toNat || Gu.mem Gu.usrB l[k].toNat) = true by unfold Gu.pln; rw [oL]; simp)
        go_wp2_with fail
        refine (letter_any l[k].toNat _).mono ?_
        rw [oL]
        rintro e w' ⟨rfl, rfl⟩
        go_wp2_with fail
        go_round
        case rel =>
          refine ⟨k + 1, by omega, by go_num, Lib.hid ?_⟩
          rw [HV.out, hd.out, FE.out]; rfl
        case measure => simp [intOf]; omega
    · obtain rfl : k = t := by omega
      go_wp2_with fail
      refine (HE.out _).mono ?_
      rintro e w' ⟨rfl, rfl⟩
      go_wp2_with fail
      go_ret
      refine ⟨ret_bool ?_, rfl⟩
      rw [HU.out, HV.out, lef_nil l k k (Nat.le_refl _)]; rfl

/-! ### schemes -/
/-- A scheme's end as the document has it. -/
def conv (p : Int × Bool) : Int := if p.2 then p.1 + 1 else -1
theorem sch_step (l : Pc.B) (t k : Nat) (h : k < t) (ht : t ≤ l.length) : conv (Gu.sch k (lef l t k)) = if l[k] = 58 then (if k = 0 then -1 else (k : Int) + 1) else if Gu.ltr l[k].toNat then conv (Gu.sch (k + 1) (lef l t (k + 1))) else if k = 0 then 0 else if Gu.dgt l[k].toNat || Gu.mem Gu.sch3 l[k].toNat then conv (Gu.sch (k + 1) (lef l t (k + 1))) else 0 := by
  rw [lef_cons l t k h ht, Gu.sch]
  have hb := l[k].toNat_lt
  generalize lef l t (k + 1) = m
  generalize l[k] = c at hb ⊢
  by_cases h58 : c = 58
  · rw [if_pos h58, if_pos h58]
    by_cases h0 : k = 0
    · rw [if_pos h0]; simp [conv, h0]
    · rw [if_neg h0]; simp [conv]; omega
  · rw [if_neg h58, if_neg h58]
    by_cases h0 : k = 0
    · have e : (!(Gu.pln c.toNat || Gu.mem Gu.sch3 c.toNat) || (decide (k = 0) && decide (c.toNat < 65))) = !Gu.ltr c.toNat := by
        rw [decide_eq_true h0, Bool.true_and, Bool.eq_iff_iff]
        unfold Gu.pln Gu.dgt Gu.ltr Gu.mem Gu.sch3
        simp
        omega
      rw [e, if_pos h0]
      cases Gu.ltr c.toNat <;> simp [conv]
    · rw [decide_eq_false h0, Bool.false_and, Bool.or_false, if_neg h0]
      unfold Gu.pln
      cases Gu.ltr c.toNat <;> cases Gu.dgt c.toNat <;> cases Gu.mem Gu.sch3 c.toNat <;> simp [conv]
set_option maxRecDepth 100000 in
set_option maxHeartbeats 3200000 in
theorem rscheme_any (l : Pc.B) (hl : l.length ≤ 1000000) (t : Nat) (ht : t ≤ l.length) (w : World) : Calls Try.prog 28 #[.string ⟨l.toArray⟩, .int .i64 t] w fun e w' => e = .returned (.int .i64 (conv (Gu.sch 0 (l.take t)))) ∧ w = w' := by
  have HS : Hid (l.take t = lef l t 0) := Lib.hid rfl
  go_enter Try.func28, Try.ntmps28
  go_wp2
  go_loop [5] (fun i => ∃ k : Nat, k ≤ t ∧ i = .int .i64 k ∧ Hid (conv (Gu.sch 0 (lef l t 0)) = conv (Gu.sch k (lef l t k)))) (fun i => t - (intOf i).toNat)
  case atStart => exact ⟨0, by omega, rfl, Lib.hid rfl⟩
  case round =>
    obtain ⟨k, hk, rfl, HV⟩ := hrel
    by_cases hlt : k < t
    · have hkl : k < l.length := by omega
      have hd := Lib.hid (sch_step l t k hlt ht)
      by_cases h58 : l[k] = 58
      · have hc : ((l[k].toNat : Int) == 58) = true := by rw [h58]; rfl
        have H58 := Lib.hid h58
        clear h58
        by_cases h0 : k = 0
        · have e0 : ((k : Int) == 0) = true := by rw [h0]; rfl
          have FE := Lib.hid (show conv (Gu.sch 0 (l.take t)) = -1 by rw [HS.out, HV.out, hd.out, if_pos H58.out, if_pos h0])
          clear h0
          go_wp2_with fail
          go_ret
          exact ⟨ret_int FE.out.symm, rfl⟩
        · have e0 : ((k : Int) == 0) = false := by rw [beq_eq_false_iff_ne]; omega
          have FE := Lib.hid (show conv (Gu.sch 0 (l.take t)) = (k : Int) + 1 by rw [HS.out, HV.out, hd.out, if_pos H58.out, if_neg h0])
          go_wp2_with fail
          go_ret
          exact ⟨ret_int FE.out.symm, rfl⟩
      · have hc : ((l[k].toNat : Int) == 58) = false := beq_f (u8_ne (d := 58) h58)
        have H58 := Lib.hid h58
        clear h58
        cases oL : Gu.ltr l[k].toNat
        · by_cases h0 : k = 0
          · have e0 : ((k : Int) == 0) = true := by rw [h0]; rfl
            have FE := Lib.hid (show conv (Gu.sch 0 (l.take t)) = 0 by rw [HS.out, HV.out, hd.out, if_neg H58.out, oL, if_neg Bool.false_ne_true, if_pos h0])
            clear h0
            go_wp2_with fail
            refine (letter_any l[k].toNat _).mono ?_
            rw [oL]
            rintro e w' ⟨rfl, rfl⟩
            go_wp2_with fail
            go_ret
            exact ⟨ret_int FE.out.symm, rfl⟩
          · have e0 : ((k : Int) == 0) = false := by rw [beq_eq_false_iff_ne]; omega
            cases oD : Gu.dgt l[k].toNat
            · cases oM : Gu.mem Gu.sch3 l[k].toNat
              · have FE := Lib.hid (show conv (Gu.sch 0 (l.take t)) = 0 by rw [HS.out, HV.out, hd.out, if_neg H58.out, oL, if_neg Bool.false_ne_true, if_neg h0, oD, oM]; rfl)
                go_wp2_with fail
                refine (letter_any l[k].toNat _).mono ?_
                rw [oL]
                rintro e w' ⟨rfl, rfl⟩
                go_wp2_with fail
                refine (digit_any l[k].toNat _).mono ?_
                rw [oD]
                rintro e w' ⟨rfl, rfl⟩
                go_wp2_with fail
                refine (is_any l[k].toNat Gu.sch3 (by decide) _).mono ?_
                rw [oM]
                rintro e w' ⟨rfl, rfl⟩
                go_wp2_with fail
                go_ret
                exact ⟨ret_int FE.out.symm, rfl⟩
              · have FE := Lib.hid (show conv (Gu.sch 0 (lef l t 0)) = conv (Gu.sch (k + 1) (lef l t (k + 1))) by rw [HV.out, hd.out, if_neg H58.out, oL, if_neg Bool.false_ne_true, if_neg h0, oD, oM]; rfl)
                go_wp2_with fail
                refine (letter_any l[k].toNat _).mono ?_
                rw [oL]
                rintro e w' ⟨rfl, rfl⟩
                go_wp2_with fail
                refine (digit_any l[k].toNat _).mono ?_
                rw [oD]
                rintro e w' ⟨rfl, rfl⟩
                go_wp2_with fail
                refine (is_any l[k].toNat Gu.sch3 (by decide) _).mono ?_
                rw [oM]
                rintro e w' ⟨rfl, rfl⟩
                go_wp2_with fail
                go_round
                case rel => exact ⟨k + 1, by omega, by go_num, FE⟩
                case measure => simp [intOf]; omega
            · have FE := Lib.hid (show conv (Gu.sch 0 (lef l t 0)) = conv (Gu.sch (k + 1) (lef l t (k + 1))) by rw [HV.out, hd.out, if_neg H58.out, oL, if_neg Bool.false_ne_true, if_neg h0, oD]; rfl)
              go_wp2_with fail
              refine (letter_any l[k].toNat _).mono ?_
              rw [oL]
              rintro e w' ⟨rfl, rfl⟩
              go_wp2_with fail
              refine (digit_any l[k].toNat _).mono ?_
              rw [oD]
              rintro e w' ⟨rfl, rfl⟩
              go_wp2_with fail
              go_round
              case rel => exact ⟨k + 1, by omega, by go_num, FE⟩
              case measure => simp [intOf]; omega
        · have FE := Lib.hid (show conv (Gu.sch 0 (lef l t 0)) = conv (Gu.sch (k + 1) (lef l t (k + 1))) by rw [HV.out, hd.out, if_neg H58.out, oL, if_pos rfl])
          go_wp2_with fail
          refine (letter_any l[k].toNat _).mono ?_
          rw [oL]
          rintro e w' ⟨rfl, rfl⟩
          go_wp2_with fail
          go_round
          case rel => exact ⟨k + 1, by omega, by go_num, FE⟩
          case measure => simp [intOf]; omega
    · obtain rfl : k = t := by omega
      have FE := Lib.hid (show conv (Gu.sch 0 (l.take k)) = 0 by rw [HS.out, HV.out, lef_nil _ _ _ (Nat.le_refl _)]; rfl)
      go_wp2_with fail
      go_ret
      exact ⟨ret_int FE.out.symm, rfl⟩
end Go.Proofs.Ytpccfagbmbbpkaa
