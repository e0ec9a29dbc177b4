/-
  The document's own answers for layer 20: escapes, hosts, userinfo, schemes, places, between two places of a text.
-/
import Derived.Test.YtpccfagbmbbpkaaRefA
namespace Go.Proofs.Ytpccfagbmbbpkaa
open Go.RowKit Go.Proofs.YtpccfagbmbbpkaaW.PrintWords

/-- What is left of a text up to a place, from a place on. -/
abbrev lef (l : Pc.B) (t k : Nat) : Pc.B := (l.take t).drop k
theorem lef_cons (l : Pc.B) (t k : Nat) (h : k < t) (ht : t ≤ l.length) : lef l t k = l[k] :: lef l t (k + 1) := by
  unfold lef
  rw [List.drop_eq_getElem_cons (by simp; omega), List.getElem_take]
theorem lef_nil (l : Pc.B) (t k : Nat) (h : t ≤ k) : lef l t k = [] := List.drop_eq_nil_of_le (by simp; omega)
theorem lef_three (l : Pc.B) (t k : Nat) (h : k + 2 < t) (ht : t ≤ l.length) : lef l t k = l[k] :: l[k + 1] :: l[k + 2] :: lef l t (k + 3) := by
  rw [lef_cons l t k (by omega) ht, lef_cons l t (k + 1) (by omega) ht, lef_cons l t (k + 1 + 1) (by omega) ht]
theorem lef_short (l : Pc.B) (t k : Nat) (h : ¬ k + 2 < t) : (lef l t k).length < 3 := by unfold lef; simp; omega
theorem valid_step (l : Pc.B) (t k : Nat) (h : k < t) (ht : t ≤ l.length) : Pc.valid (lef l t k) = (!(l[k] == 37 && !Pc.escOk (lef l t k)) && Pc.valid (lef l t (k + 1))) := by
  rw [lef_cons l t k h ht, Pc.valid]
theorem escOk_sh {m : Pc.B} (h : m.length < 3) : Pc.escOk m = false := by
  rcases m with _ | ⟨a, _ | ⟨b, _ | ⟨c, t⟩⟩⟩ <;> first | rfl | (simp at h; omega)
set_option maxHeartbeats 1600000 in
theorem escapes_any (l : Pc.B) (hl : l.length ≤ 1000000) (f t : Nat) (hf : f ≤ t) (ht : t ≤ l.length) (w : World) : Calls Try.prog 27 #[.string ⟨l.toArray⟩, .int .i64 f, .int .i64 t] w fun e w' => e = .returned (.bool (Pc.valid (lef l t f))) ∧ w = w' := by
  go_enter Try.func27, Try.ntmps27
  go_wp2
  go_loop [7] (fun i => ∃ k : Nat, k ≤ t ∧ i = .int .i64 k ∧ Hid (Pc.valid (lef l t f) = Pc.valid (lef l t k))) (fun i => t - (intOf i).toNat)
  case atStart => exact ⟨f, hf, rfl, Lib.hid rfl⟩
  case round =>
    obtain ⟨k, hk, rfl, HV⟩ := hrel
    by_cases hlt : k < t
    · have hkl : k < l.length := by omega
      have hd := Lib.hid (valid_step l t k hlt ht)
      by_cases h37 : l[k] = 37
      · have hc : ((l[k].toNat : Int) == 37) = true := by rw [h37]; rfl
        have H37 := Lib.hid h37
        by_cases h2 : k + 2 < t
        · have g1 := l[k + 1].toNat_lt
          have g2 := l[k + 2].toNat_lt
          have hE := Lib.hid (lef_three l t k h2 ht)
          clear h37
          cases o1 : Pc.ok l[k + 1].toNat
          · go_wp2_with (go_at_call 43; refine (rhex_any l[k + 1].toNat _).mono ?_; rw [o1]; rintro e w' ⟨rfl, rfl⟩)
            go_ret
            refine ⟨ret_bool ?_, rfl⟩
            rw [HV.out, hd.out, hE.out]
            simp [Pc.escOk, H37.out, o1]
          · cases o2 : Pc.ok l[k + 2].toNat
            · go_wp2_with fail
              refine (rhex_any l[k + 1].toNat _).mono ?_
              rw [o1]
              rintro e w' ⟨rfl, rfl⟩
              go_wp2_with fail
              refine (rhex_any l[k + 2].toNat _).mono ?_
              rw [o2]
              rintro e w' ⟨rfl, rfl⟩
              go_wp2_with fail
              go_ret
              refine ⟨ret_bool ?_, rfl⟩
              rw [HV.out, hd.out, hE.out]
              simp [Pc.escOk, H37.out, o1, o2]
            · go_wp2_with fail
              refine (rhex_any l[k + 1].toNat _).mono ?_
              rw [o1]
              rintro e w' ⟨rfl, rfl⟩
              go_wp2_with fail
              refine (rhex_any l[k + 2].toNat _).mono ?_
              rw [o2]
              rintro e w' ⟨rfl, rfl⟩
              go_wp2_with fail
              go_round
              case rel =>
                refine ⟨k + 1, by omega, by go_num, Lib.hid ?_⟩
                rw [HV.out, hd.out, hE.out]
                simp [Pc.escOk, H37.out, o1, o2]
              case measure => simp [intOf]; omega
        · have hE := Lib.hid (escOk_sh (lef_short l t k h2))
          clear h37
          go_wp2_with fail
          go_ret
          refine ⟨ret_bool ?_, rfl⟩
          rw [HV.out, hd.out, hE.out, H37.out]; rfl
      · have hc : ((l[k].toNat : Int) == 37) = false := beq_f (u8_ne (d := 37) h37)
        have H37 := Lib.hid (show (l[k] == 37) = false by simpa using h37)
        clear h37
        go_wp2_with fail
        go_round
        case rel =>
          refine ⟨k + 1, by omega, by go_num, Lib.hid ?_⟩
          rw [HV.out, hd.out, H37.out]; rfl
        case measure => simp [intOf]; omega
    · obtain rfl : k = t := by omega
      go_wp2_with fail
      go_ret
      refine ⟨ret_bool ?_, rfl⟩
      rw [HV.out, lef_nil _ _ _ (Nat.le_refl _)]; rfl

/-! ### hosts -/
theorem named_step (l : Pc.B) (t k : Nat) (h : k < t) (ht : t ≤ l.length) : Gu.named (lef l t k) = ((if l[k] = 37 then Gu.esch (lef l t k) else Gu.pln l[k].toNat || Gu.mem Gu.hstB l[k].toNat || decide (128 ≤ l[k].toNat)) && Gu.named (lef l t (k + 1))) := by
  rw [lef_cons l t k h ht, Gu.named]
theorem esch_sh {m : Pc.B} (h : m.length < 3) : Gu.esch m = false := by
  rcases m with _ | ⟨a, _ | ⟨b, _ | ⟨c, t⟩⟩⟩ <;> first | rfl | (simp at h; omega)
/-- How the document tells of an escape in a host. -/
theorem esch_doc (a b : UInt8) (m : Pc.B) : Gu.esch (37 :: a :: b :: m) = ((Pc.ok a.toNat && Pc.ok b.toNat && (Gu.ltr a.toNat || decide (56 ≤ a.toNat))) || (decide (a.toNat = 50) && decide (b.toNat = 53))) := by
  have ha := a.toNat_lt
  have hb := b.toNat_lt
  have e1 : ((a : UInt8) = 50) ↔ a.toNat = 50 := ⟨fun h => by rw [h]; rfl, fun h => UInt8.toNat_inj.mp h⟩
  have e2 : ((b : UInt8) = 53) ↔ b.toNat = 53 := ⟨fun h => by rw [h]; rfl, fun h => UInt8.toNat_inj.mp h⟩
  rw [Bool.eq_iff_iff]
  unfold Gu.esch Gu.ltr Pc.ok Pc.v
  simp [e1, e2]
  omega
set_option maxRecDepth 100000 in
set_option maxHeartbeats 3200000 in
theorem rhost_any (l : Pc.B) (hl : l.length ≤ 1000000) (f t : Nat) (hf : f ≤ t) (ht : t ≤ l.length) (w : World) : Calls Try.prog 46 #[.string ⟨l.toArray⟩, .int .i64 f, .int .i64 t] w fun e w' => e = .returned (.bool (Gu.named (lef l t f))) ∧ w = w' := by
  go_enter Try.func46, Try.ntmps46
  go_wp2
  go_loop [7] (fun i => ∃ k : Nat, k ≤ t ∧ i = .int .i64 k ∧ Hid (Gu.named (lef l t f) = Gu.named (lef l t k))) (fun i => t - (intOf i).toNat)
  case atStart => exact ⟨f, hf, rfl, Lib.hid rfl⟩
  case round =>
    obtain ⟨k, hk, rfl, HV⟩ := hrel
    by_cases hlt : k < t
    · have hkl : k < l.length := by omega
      have hb0 := l[k].toNat_lt
      have hd := Lib.hid (named_step l t k hlt ht)
      by_cases h37 : l[k] = 37
      · have hc : ((l[k].toNat : Int) == 37) = true := by rw [h37]; rfl
        have H37 := Lib.hid h37
        clear h37
        by_cases h2 : k + 2 < t
        · have g1 := l[k + 1].toNat_lt
          have g2 := l[k + 2].toNat_lt
          have hE := Lib.hid (lef_three l t k h2 ht)
          have HDOC := Lib.hid (esch_doc l[k + 1] l[k + 2] (lef l t (k + 3)))
          cases o1 : Pc.ok l[k + 1].toNat
          · have n50 : ¬ l[k + 1].toNat = 50 := by intro e; rw [e] at o1; revert o1; decide
            have b50 : ((l[k + 1].toNat : Int) == 50) = false := by rw [beq_eq_false_iff_ne]; omega
            have FE := Lib.hid (show Gu.esch (l[k] :: l[k + 1] :: l[k + 2] :: lef l t (k + 3)) = false by rw [H37.out, HDOC.out, o1, decide_eq_false n50]; rfl)
            clear n50
            go_wp2_with fail
            refine (rhex_any l[k + 1].toNat _).mono ?_
            rw [o1]
            rintro e w' ⟨rfl, rfl⟩
            go_wp2_with fail
            go_ret
            refine ⟨ret_bool ?_, rfl⟩
            rw [HV.out, hd.out, if_pos H37.out, hE.out, FE.out]; rfl
          · cases o2 : Pc.ok l[k + 2].toNat
            · have n53 : ¬ l[k + 2].toNat = 53 := by intro e; rw [e] at o2; revert o2; decide
              have b53 : ((l[k + 2].toNat : Int) == 53) = false := by rw [beq_eq_false_iff_ne]; omega
              have FE := Lib.hid (show Gu.esch (l[k] :: l[k + 1] :: l[k + 2] :: lef l t (k + 3)) = false by rw [H37.out, HDOC.out, o1, o2, decide_eq_false n53]; simp)
              by_cases n50 : l[k + 1].toNat = 50
              · have b50 : ((l[k + 1].toNat : Int) == 50) = true := by rw [beq_iff_eq]; omega
                clear n50 n53
                go_wp2_with fail
                refine (rhex_any l[k + 1].toNat _).mono ?_
                rw [o1]
                rintro e w' ⟨rfl, rfl⟩
                go_wp2_with fail
                refine (rhex_any l[k + 2].toNat _).mono ?_
                rw [o2]
                rintro e w' ⟨rfl, rfl⟩
                go_wp2_with fail
                go_ret
                refine ⟨ret_bool ?_, rfl⟩
                rw [HV.out, hd.out, if_pos H37.out, hE.out, FE.out]; rfl
              · have b50 : ((l[k + 1].toNat : Int) == 50) = false := by rw [beq_eq_false_iff_ne]; omega
                clear n50 n53
                go_wp2_with fail
                refine (rhex_any l[k + 1].toNat _).mono ?_
                rw [o1]
                rintro e w' ⟨rfl, rfl⟩
                go_wp2_with fail
                refine (rhex_any l[k + 2].toNat _).mono ?_
                rw [o2]
                rintro e w' ⟨rfl, rfl⟩
                go_wp2_with fail
                go_ret
                refine ⟨ret_bool ?_, rfl⟩
                rw [HV.out, hd.out, if_pos H37.out, hE.out, FE.out]; rfl
            · cases oL : Gu.ltr l[k + 1].toNat
              · by_cases n56 : 56 ≤ l[k + 1].toNat
                · have d56 : decide ((56 : Int) ≤ (l[k + 1].toNat : Int)) = true := by simp; omega
                  have FE := Lib.hid (show Gu.esch (l[k] :: l[k + 1] :: l[k + 2] :: lef l t (k + 3)) = true by rw [H37.out, HDOC.out, o1, o2, oL, decide_eq_true n56]; rfl)
                  go_wp2_with fail
                  refine (rhex_any l[k + 1].toNat _).mono ?_
                  rw [o1]
                  rintro e w' ⟨rfl, rfl⟩
                  go_wp2_with fail
                  refine (rhex_any l[k + 2].toNat _).mono ?_
                  rw [o2]
                  rintro e w' ⟨rfl, rfl⟩
                  go_wp2_with fail
                  refine (letter_any l[k + 1].toNat _).mono ?_
                  rw [oL]
                  rintro e w' ⟨rfl, rfl⟩
                  go_wp2_with fail
                  go_round
                  case rel =>
                    refine ⟨k + 1, by omega, by go_num, Lib.hid ?_⟩
                    rw [HV.out, hd.out, if_pos H37.out, hE.out, FE.out]; rfl
                  case measure => simp [intOf]; omega
                · have d56 : decide ((56 : Int) ≤ (l[k + 1].toNat : Int)) = false := by simp; omega
                  by_cases n50 : l[k + 1].toNat = 50
                  · have b50 : ((l[k + 1].toNat : Int) == 50) = true := by rw [beq_iff_eq]; omega
                    by_cases n53 : l[k + 2].toNat = 53
                    · have b53 : ((l[k + 2].toNat : Int) == 53) = true := by rw [beq_iff_eq]; omega
                      have FE := Lib.hid (show Gu.esch (l[k] :: l[k + 1] :: l[k + 2] :: lef l t (k + 3)) = true by rw [H37.out, HDOC.out, decide_eq_true n50, decide_eq_true n53]; simp)
                      clear n50 n53
                      go_wp2_with fail
                      refine (rhex_any l[k + 1].toNat _).mono ?_
                      rw [o1]
                      rintro e w' ⟨rfl, rfl⟩
                      go_wp2_with fail
                      refine (rhex_any l[k + 2].toNat _).mono ?_
                      rw [o2]
                      rintro e w' ⟨rfl, rfl⟩
                      go_wp2_with fail
                      refine (letter_any l[k + 1].toNat _).mono ?_
                      rw [oL]
                      rintro e w' ⟨rfl, rfl⟩
                      go_wp2_with fail
                      go_round
                      case rel =>
                        refine ⟨k + 1, by omega, by go_num, Lib.hid ?_⟩
                        rw [HV.out, hd.out, if_pos H37.out, hE.out, FE.out]; rfl
                      case measure => simp [intOf]; omega
                    · have b53 : ((l[k + 2].toNat : Int) == 53) = false := by rw [beq_eq_false_iff_ne]; omega
                      have FE := Lib.hid (show Gu.esch (l[k] :: l[k + 1] :: l[k + 2] :: lef l t (k + 3)) = false by rw [H37.out, HDOC.out, oL, decide_eq_false n56, decide_eq_false n53]; simp)
                      clear n50 n53
                      go_wp2_with fail
                      refine (rhex_any l[k + 1].toNat _).mono ?_
                      rw [o1]
                      rintro e w' ⟨rfl, rfl⟩
                      go_wp2_with fail
                      refine (rhex_any l[k + 2].toNat _).mono ?_
                      rw [o2]
                      rintro e w' ⟨rfl, rfl⟩
                      go_wp2_with fail
                      refine (letter_any l[k + 1].toNat _).mono ?_
                      rw [oL]
                      rintro e w' ⟨rfl, rfl⟩
                      go_wp2_with fail
                      go_ret
                      refine ⟨ret_bool ?_, rfl⟩
                      rw [HV.out, hd.out, if_pos H37.out, hE.out, FE.out]; rfl
                  · have b50 : ((l[k + 1].toNat : Int) == 50) = false := by rw [beq_eq_false_iff_ne]; omega
                    have FE := Lib.hid (show Gu.esch (l[k] :: l[k + 1] :: l[k + 2] :: lef l t (k + 3)) = false by rw [H37.out, HDOC.out, oL, decide_eq_false n56, decide_eq_false n50]; simp)
                    clear n50
                    go_wp2_with fail
                    refine (rhex_any l[k + 1].toNat _).mono ?_
                    rw [o1]
                    rintro e w' ⟨rfl, rfl⟩
                    go_wp2_with fail
                    refine (rhex_any l[k + 2].toNat _).mono ?_
                    rw [o2]
                    rintro e w' ⟨rfl, rfl⟩
                    go_wp2_with fail
                    refine (letter_any l[k + 1].toNat _).mono ?_
                    rw [oL]
                    rintro e w' ⟨rfl, rfl⟩
                    go_wp2_with fail
                    go_ret
                    refine ⟨ret_bool ?_, rfl⟩
                    rw [HV.out, hd.out, if_pos H37.out, hE.out, FE.out]; rfl
              · have FE := Lib.hid (show Gu.esch (l[k] :: l[k + 1] :: l[k + 2] :: lef l t (k + 3)) = true by rw [H37.out, HDOC.out, o1, o2, oL]; rfl)
                go_wp2_with fail
                refine (rhex_any l[k + 1].toNat _).mono ?_
                rw [o1]
                rintro e w' ⟨rfl, rfl⟩
                go_wp2_with fail
                refine (rhex_any l[k + 2].toNat _).mono ?_
                rw [o2]
                rintro e w' ⟨rfl, rfl⟩
                go_wp2_with fail
                refine (letter_any l[k + 1].toNat _).mono ?_
                rw [oL]
                rintro e w' ⟨rfl, rfl⟩
                go_wp2_with fail
                go_round
                case rel =>
                  refine ⟨k + 1, by omega, by go_num, Lib.hid ?_⟩
                  rw [HV.out, hd.out, if_pos H37.out, hE.out, FE.out]; rfl
                case measure => simp [intOf]; omega
        · have hE := Lib.hid (esch_sh (lef_short l t k h2))
          go_wp2_with fail
          go_ret
          refine ⟨ret_bool ?_, rfl⟩
          rw [HV.out, hd.out, if_pos H37.out, hE.out]; rfl
      · have hc : ((l[k].toNat : Int) == 37) = false := beq_f (u8_ne (d := 37) h37)
        have H37 := Lib.hid h37
        clear h37
        by_cases n128 : 128 ≤ l[k].toNat
        · have FE := Lib.hid (show (Gu.pln l[k].toNat || Gu.mem Gu.hstB l[k].toNat || decide (128 ≤ l[k].toNat)) = true by rw [decide_eq_true n128, Bool.or_true])
          go_wp2_with fail
          go_round
          case rel =>
            refine ⟨k + 1, by omega, by go_num, Lib.hid ?_⟩
            rw [HV.out, hd.out, if_neg H37.out, FE.out]; rfl
          case measure => simp [intOf]; omega
        · cases oL : Gu.ltr l[k].toNat
          · cases oD : Gu.dgt l[k].toNat
            · cases oM : Gu.mem Gu.hstB l[k].toNat
              · have FE := Lib.hid (show (Gu.pln l[k].toNat || Gu.mem Gu.hstB l[k].toNat || decide (128 ≤ l[k].toNat)) = false by unfold Gu.pln; rw [oL, oD, oM, decide_eq_false n128]; rfl)
                go_wp2_with fail
                refine (letter_any l[k].toNat _).mono ?_
                rw [oL]
                rintro e w' ⟨rfl, rfl⟩
                go_wp2_with fail
                refine (digit_any l[k].toNat _).mono ?_
                rw [oD]
                rintro e w' ⟨rfl, rfl⟩
                go_wp2_with fail
                refine (is_any l[k].toNat Gu.hstB (by decide) _).mono ?_
                rw [oM]
                rintro e w' ⟨rfl, rfl⟩
                go_wp2_with fail
                go_ret
                refine ⟨ret_bool ?_, rfl⟩
                rw [HV.out, hd.out, if_neg H37.out, FE.out]; rfl
              · have FE := Lib.hid (show (Gu.pln l[k].toNat || Gu.mem Gu.hstB l[k].toNat || decide (128 ≤ l[k].toNat)) = true by rw [oM]; simp)
                go_wp2_with fail
                refine (letter_any l[k].toNat _).mono ?_
                rw [oL]
                rintro e w' ⟨rfl, rfl⟩
                go_wp2_with fail
                refine (digit_any l[k].toNat _).mono ?_
                rw [oD]
                rintro e w' ⟨rfl, rfl⟩
                go_wp2_with fail
                refine (is_any l[k].toNat Gu.hstB (by decide) _).mono ?_
                rw [oM]
                rintro e w' ⟨rfl, rfl⟩
                go_wp2_with fail
                go_round
                case rel =>
                  refine ⟨k + 1, by omega, by go_num, Lib.hid ?_⟩
                  rw [HV.out, hd.out, if_neg H37.out, FE.out]; rfl
                case measure => simp [intOf]; omega
            · have FE := Lib.hid (show (Gu.pln l[k].toNat || Gu.mem Gu.hstB l[k].toNat || decide (128 ≤ l[k].toNat)) = true by unfold Gu.pln; rw [oD]; simp)
              go_wp2_with fail
              refine (letter_any l[k].toNat _).mono ?_
              rw [oL]
              rintro e w' ⟨rfl, rfl⟩
              go_wp2_with fail
              refine (digit_any l[k].toNat _).mono ?_
              rw [oD]
              rintro e w' ⟨rfl, rfl⟩
              go_wp2_with fail
              go_round
              case rel =>
                refine ⟨k + 1, by omega, by go_num, Lib.hid ?_⟩
                rw [HV.out, hd.out, if_neg H37.out, FE.out]; rfl
              case measure => simp [intOf]; omega
          · have FE := Lib.hid (show (Gu.pln l[k].toNat || Gu.mem Gu.hstB l[k].toNat || decide (128 ≤ l[k].toNat)) = true by unfold Gu.pln; rw [oL]; simp)
            go_wp2_with fail
            refine (letter_any l[k].toNat _).mono ?_
            rw [oL]
            rintro e w' ⟨rfl, rfl⟩
            go_wp2_with fail
            go_round
            case rel =>
              refine ⟨k + 1, by omega, by go_num, Lib.hid ?_⟩
              rw [HV.out, hd.out, if_neg H37.out, FE.out]; rfl
            case measure => simp [intOf]; omega
    · obtain rfl : k = t := by omega
      go_wp2_with fail
      go_ret
      refine ⟨ret_bool ?_, rfl⟩
      rw [HV.out, lef_nil _ _ _ (Nat.le_refl _)]; rfl

end Go.Proofs.Ytpccfagbmbbpkaa
