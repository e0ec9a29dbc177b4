/-
  The document's own answers for layer 20: the host of a place.
-/
import Derived.Test.YtpccfagbmbbpkaaRefC
namespace Go.Proofs.Ytpccfagbmbbpkaa
open Go.RowKit Go.Proofs.YtpccfagbmbbpkaaW.PrintWords

/-- Where the host of a place ends; -1: it is refused. -/
def plc (f : Nat) (s : Pc.B) : Int := if Gu.placeN s < 0 then -1 else if Gu.port (s.drop (Gu.placeN s).toNat) && Gu.named (s.take (Gu.placeN s).toNat) then f + Gu.placeN s else -1
theorem plc_no {f : Nat} {s : Pc.B} (h : Gu.placeN s < 0) : plc f s = -1 := by unfold plc; rw [if_pos h]
theorem plc_at {l : Pc.B} {f t e : Nat} (hfe : f ≤ e) (het : e ≤ t) (h : Gu.placeN (lef l t f) = ((e - f : Nat) : Int)) : plc f (lef l t f) = if Gu.port (lef l t e) && Gu.named (lef l e f) then (e : Int) else -1 := by
  unfold plc
  rw [if_neg (by omega), h]
  have e1 : (lef l t f).drop ((e - f : Nat) : Int).toNat = lef l t e := by
    unfold lef
    rw [List.drop_drop, Int.toNat_natCast, show f + (e - f) = e by omega]
  have e2 : (lef l t f).take ((e - f : Nat) : Int).toNat = lef l e f := by
    unfold lef
    rw [List.take_drop, Int.toNat_natCast, List.take_take, show min (f + (e - f)) t = e by omega]
  rw [e1, e2]
  split <;> omega
theorem head_lef (l : Pc.B) (f t : Nat) (hft : f < t) (ht : t ≤ l.length) : (lef l t f).head? = some l[f] := by rw [lef_cons l t f hft ht]; rfl
/-- What a port's test has left to look at. -/
def pt (l : Pc.B) (t e k : Nat) : Bool := if k = e then Gu.port (lef l t e) else (lef l t k).all fun d => Gu.dgt d.toNat
theorem pt_first (l : Pc.B) (t e : Nat) (h : e < t) (ht : t ≤ l.length) : Gu.port (lef l t e) = (decide (l[e] = 58) && pt l t e (e + 1)) := by
  unfold pt
  rw [if_neg (by omega), lef_cons l t e h ht]; rfl
theorem pt_next (l : Pc.B) (t e k : Nat) (hk : e < k) (h : k < t) (ht : t ≤ l.length) : pt l t e k = (Gu.dgt l[k].toNat && pt l t e (k + 1)) := by
  unfold pt
  rw [if_neg (by omega), if_neg (by omega), lef_cons l t k h ht, List.all_cons]
theorem pt_end (l : Pc.B) (t e : Nat) : pt l t e t = true := by
  unfold pt
  rw [lef_nil l t t (Nat.le_refl _)]
  split
  · rename_i h; subst h; rw [lef_nil l t t (Nat.le_refl _)]; rfl
  · rfl
set_option maxRecDepth 100000 in
set_option maxHeartbeats 3200000 in
theorem rplace_br (l : Pc.B) (hl : l.length ≤ 1000000) (f t : Nat) (hf : f < t) (ht : t ≤ l.length) (h91 : l[f] = 91) (w : World) : Calls Try.prog 32 #[.string ⟨l.toArray⟩, .int .i64 f, .int .i64 t] w fun e w' => e = .returned (.int .i64 (plc f (lef l t f))) ∧ w = w' := by
  have hpn : Gu.placeN (lef l t f) = if Gu.lst 93 (lef l t f) < 0 then -1 else Gu.lst 93 (lef l t f) + 1 := by
    unfold Gu.placeN; rw [head_lef l f t hf ht, if_pos (by rw [h91])]
  have H58 := Lib.hid (fun w => last_any l hl 58 f t (by omega) ht w)
  have H93 := Lib.hid (fun w => last_any l hl 93 f t (by omega) ht w)
  rw [show (((58 : UInt8).toNat : Int)) = 58 from rfl] at H58
  rw [show (((93 : UInt8).toNat : Int)) = 93 from rfl] at H93
  have hlen : (lef l t f).length = t - f := by unfold lef; simp; omega
  have hge := Gu.lst_ge 93 (lef l t f)
  rw [hlen] at hge
  have hlv : lv 93 l f t = if Gu.lst 93 (lef l t f) < 0 then -1 else (f : Int) + Gu.lst 93 (lef l t f) := rfl
  have hc91 : ((l[f].toNat : Int) == 91) = true := by rw [h91]; rfl
  have hfl : f < l.length := by omega
  clear h91 hlen
  generalize lv 58 l f t = n58 at H58
  generalize Gu.lst 93 (lef l t f) = n93 at hpn hge hlv
  by_cases hn : n93 < 0
  · rw [if_pos hn] at hpn hlv
    have FE := Lib.hid (plc_no (f := f) (show Gu.placeN (lef l t f) < 0 by omega))
    rw [hlv] at H93
    clear hpn hlv hge hn
    go_enter Try.func32, Try.ntmps32
    go_wp2_with fail
    refine (H58.out _).mono ?_
    rintro e w' ⟨rfl, rfl⟩
    go_wp2_with fail
    refine (H93.out _).mono ?_
    rintro e w' ⟨rfl, rfl⟩
    go_wp2_with fail
    go_ret
    exact ⟨ret_int FE.out.symm, rfl⟩
  · rw [if_neg hn] at hpn hlv
    obtain ⟨E, hE⟩ : ∃ E : Nat, (f : Int) + n93 + 1 = E := ⟨((f : Int) + n93 + 1).toNat, by omega⟩
    have hfE : f ≤ E := by omega
    have hEt : E ≤ t := by omega
    have HP := Lib.hid (plc_at hfE hEt (show Gu.placeN (lef l t f) = ((E - f : Nat) : Int) by omega))
    have e1 : lv 93 l f t = (E : Int) - 1 := by omega
    rw [e1] at H93
    have q2 : IntKind.i64.wrap ((E : Int) - 1 + 1) = (E : Int) := by rw [IntWalk.i64_in _ (by omega)]; omega
    have q3 : decide ((E : Int) - 1 < 0) = false := by simp; omega
    have q4 : decide ((E : Int) < 1) = false := by simp; omega
    have q5 : 1 ≤ E := by omega
    clear hpn hlv hge hn hE e1
    go_enter Try.func32, Try.ntmps32
    go_wp2_with fail
    refine (H58.out _).mono ?_
    rintro e w' ⟨rfl, rfl⟩
    go_wp2_with fail
    refine (H93.out _).mono ?_
    rintro e w' ⟨rfl, rfl⟩
    go_wp2_with fail
    go_loop [8] (fun i => ∃ k : Nat, E ≤ k ∧ k ≤ t ∧ i = .int .i64 k ∧ Hid (Gu.port (lef l t E) = pt l t E k)) (fun i => t - (intOf i).toNat)
    case atStart => exact ⟨E, by omega, hEt, rfl, Lib.hid (by unfold pt; rw [if_pos rfl])⟩
    case round =>
      obtain ⟨k, hEk, hk, rfl, HV⟩ := hrel
      by_cases hlt : k < t
      · have hkl : k < l.length := by omega
        have hb0 := l[k].toNat_lt
        by_cases hkE : k = E
        · subst hkE
          have hd := Lib.hid (pt_first l t k hlt ht)
          have q1 : decide ((k : Int) < (k : Int)) = false := by simp
          by_cases h58 : l[k] = 58
          · have hc : ((l[k].toNat : Int) != 58) = false := by rw [h58]; rfl
            have H58 := Lib.hid h58
            clear h58
            go_wp2_with fail
            go_round
            case rel => exact ⟨k + 1, by omega, by omega, by go_num, Lib.hid (by rw [hd.out, decide_eq_true H58.out]; rfl)⟩
            case measure => simp [intOf]; omega
          · have hc : ((l[k].toNat : Int) != 58) = true := bne_t (u8_ne (d := 58) h58)
            have FE := Lib.hid (show plc f (lef l t f) = -1 by rw [HP.out, hd.out, decide_eq_false h58]; rfl)
            clear h58
            go_wp2_with fail
            go_ret
            exact ⟨ret_int FE.out.symm, rfl⟩
        · have hEk2 : E < k := by omega
          have hd := Lib.hid (pt_next l t E k hEk2 hlt ht)
          have q0 : ((k : Int) == (E : Int)) = false := by rw [beq_eq_false_iff_ne]; omega
          have q1 : decide ((E : Int) < (k : Int)) = true := by simp; omega
          cases oD : Gu.dgt l[k].toNat
          · have FE := Lib.hid (show plc f (lef l t f) = -1 by rw [HP.out, HV.out, hd.out, oD]; rfl)
            go_wp2_with fail
            refine (digit_any l[k].toNat _).mono ?_
            rw [oD]
            rintro e w' ⟨rfl, rfl⟩
            go_wp2_with fail
            go_ret
            exact ⟨ret_int FE.out.symm, rfl⟩
          · go_wp2_with fail
            refine (digit_any l[k].toNat _).mono ?_
            rw [oD]
            rintro e w' ⟨rfl, rfl⟩
            go_wp2_with fail
            go_round
            case rel => exact ⟨k + 1, by omega, by omega, by go_num, Lib.hid (by rw [HV.out, hd.out, oD]; rfl)⟩
            case measure => simp [intOf]; omega
      · obtain rfl : k = t := by omega
        have hp := Lib.hid (HV.out.trans (pt_end l k E))
        cases oN : Gu.named (lef l E f)
        · have FE := Lib.hid (show plc f (lef l k f) = -1 by rw [HP.out, hp.out, oN]; rfl)
          go_wp2_with fail
          refine (rhost_any l hl f E hfE (by omega) _).mono ?_
          rw [oN]
          rintro e w' ⟨rfl, rfl⟩
          go_wp2_with fail
          go_ret
          exact ⟨ret_int FE.out.symm, rfl⟩
        · have FE := Lib.hid (show plc f (lef l k f) = (E : Int) by rw [HP.out, hp.out, oN]; rfl)
          go_wp2_with fail
          refine (rhost_any l hl f E hfE (by omega) _).mono ?_
          rw [oN]
          rintro e w' ⟨rfl, rfl⟩
          go_wp2_with fail
          go_ret
          exact ⟨ret_int FE.out.symm, rfl⟩
set_option maxRecDepth 100000 in
set_option maxHeartbeats 3200000 in
theorem rplace_pl (l : Pc.B) (hl : l.length ≤ 1000000) (f t : Nat) (hf : f ≤ t) (hflt : f < t) (ht : t ≤ l.length) (h91 : (lef l t f).head? ≠ some 91) (w : World) : Calls Try.prog 32 #[.string ⟨l.toArray⟩, .int .i64 f, .int .i64 t] w fun e w' => e = .returned (.int .i64 (plc f (lef l t f))) ∧ w = w' := by
  have hpn : Gu.placeN (lef l t f) = if Gu.lst 58 (lef l t f) < 0 then ((lef l t f).length : Int) else Gu.lst 58 (lef l t f) := by
    unfold Gu.placeN; rw [if_neg h91]
  have H58 := Lib.hid (fun w => last_any l hl 58 f t (by omega) ht w)
  rw [show (((58 : UInt8).toNat : Int)) = 58 from rfl] at H58
  have hlen : (lef l t f).length = t - f := by unfold lef; simp; omega
  have hge := Gu.lst_ge 58 (lef l t f)
  rw [hlen] at hge hpn
  have hlv : lv 58 l f t = if Gu.lst 58 (lef l t f) < 0 then -1 else (f : Int) + Gu.lst 58 (lef l t f) := rfl
  have hc91 : ∃ h : f < l.length, f < t ∧ ((l[f].toNat : Int) == 91) = false := by
    refine ⟨by omega, by omega, beq_f (u8_ne (d := 91) fun e => h91 ?_)⟩
    rw [head_lef l f t (by omega) ht, e]
  clear h91 hlen
  generalize Gu.lst 58 (lef l t f) = n58 at hpn hge hlv
  obtain ⟨E, hfE, hEt, hpE, hcE⟩ : ∃ E : Nat, f ≤ E ∧ E ≤ t ∧ Gu.placeN (lef l t f) = ((E - f : Nat) : Int) ∧ (lv 58 l f t = (E : Int) ∨ (lv 58 l f t = -1 ∧ E = t)) := by
    by_cases hn : n58 < 0
    · rw [if_pos hn] at hpn hlv
      exact ⟨t, hf, Nat.le_refl _, hpn, Or.inr ⟨hlv, rfl⟩⟩
    · rw [if_neg hn] at hpn hlv
      exact ⟨f + n58.toNat, by omega, by omega, by omega, Or.inl (by omega)⟩
  have HP := Lib.hid (plc_at hfE hEt hpE)
  clear hpn hlv hge hpE
  generalize lv 58 l f t = v at H58 hcE
  obtain ⟨hfl, hft, hc91⟩ := hc91
  rcases hcE with rfl | ⟨rfl, hEE⟩
  · go_enter Try.func32, Try.ntmps32
    go_wp2_with fail
    refine (H58.out _).mono ?_
    rintro e w' ⟨rfl, rfl⟩
    go_wp2_with fail
    go_loop [8] (fun i => ∃ k : Nat, E ≤ k ∧ k ≤ t ∧ i = .int .i64 k ∧ Hid (Gu.port (lef l t E) = pt l t E k)) (fun i => t - (intOf i).toNat)
    case atStart => exact ⟨E, by omega, hEt, rfl, Lib.hid (by unfold pt; rw [if_pos rfl])⟩
    case round =>
      obtain ⟨k, hEk, hk, rfl, HV⟩ := hrel
      by_cases hlt : k < t
      · have hkl : k < l.length := by omega
        have hb0 := l[k].toNat_lt
        by_cases hkE : k = E
        · subst hkE
          have hd := Lib.hid (pt_first l t k hlt ht)
          have q1 : decide ((k : Int) < (k : Int)) = false := by simp
          by_cases h58 : l[k] = 58
          · have hc : ((l[k].toNat : Int) != 58) = false := by rw [h58]; rfl
            have H58 := Lib.hid h58
            clear h58
            go_wp2_with fail
            go_round
            case rel => exact ⟨k + 1, by omega, by omega, by go_num, Lib.hid (by rw [hd.out, decide_eq_true H58.out]; rfl)⟩
            case measure => simp [intOf]; omega
          · have hc : ((l[k].toNat : Int) != 58) = true := bne_t (u8_ne (d := 58) h58)
            have FE := Lib.hid (show plc f (lef l t f) = -1 by rw [HP.out, hd.out, decide_eq_false h58]; rfl)
            clear h58
            go_wp2_with fail
            go_ret
            exact ⟨ret_int FE.out.symm, rfl⟩
        · have hEk2 : E < k := by omega
          have hd := Lib.hid (pt_next l t E k hEk2 hlt ht)
          have q0 : ((k : Int) == (E : Int)) = false := by rw [beq_eq_false_iff_ne]; omega
          have q1 : decide ((E : Int) < (k : Int)) = true := by simp; omega
          cases oD : Gu.dgt l[k].toNat
          · have FE := Lib.hid (show plc f (lef l t f) = -1 by rw [HP.out, HV.out, hd.out, oD]; rfl)
            go_wp2_with fail
            refine (digit_any l[k].toNat _).mono ?_
            rw [oD]
            rintro e w' ⟨rfl, rfl⟩
            go_wp2_with fail
            go_ret
            exact ⟨ret_int FE.out.symm, rfl⟩
          · go_wp2_with fail
            refine (digit_any l[k].toNat _).mono ?_
            rw [oD]
            rintro e w' ⟨rfl, rfl⟩
            go_wp2_with fail
            go_round
            case rel => exact ⟨k + 1, by omega, by omega, by go_num, Lib.hid (by rw [HV.out, hd.out, oD]; rfl)⟩
            case measure => simp [intOf]; omega
      · obtain rfl : k = t := by omega
        have hp := Lib.hid (HV.out.trans (pt_end l k E))
        cases oN : Gu.named (lef l E f)
        · have FE := Lib.hid (show plc f (lef l k f) = -1 by rw [HP.out, hp.out, oN]; rfl)
          go_wp2_with fail
          refine (rhost_any l hl f E hfE (by omega) _).mono ?_
          rw [oN]
          rintro e w' ⟨rfl, rfl⟩
          go_wp2_with fail
          go_ret
          exact ⟨ret_int FE.out.symm, rfl⟩
        · have FE := Lib.hid (show plc f (lef l k f) = (E : Int) by rw [HP.out, hp.out, oN]; rfl)
          go_wp2_with fail
          refine (rhost_any l hl f E hfE (by omega) _).mono ?_
          rw [oN]
          rintro e w' ⟨rfl, rfl⟩
          go_wp2_with fail
          go_ret
          exact ⟨ret_int FE.out.symm, rfl⟩
  · subst hEE
    go_enter Try.func32, Try.ntmps32
    go_wp2_with fail
    refine (H58.out _).mono ?_
    rintro e w' ⟨rfl, rfl⟩
    go_wp2_with fail
    go_loop [8] (fun i => ∃ k : Nat, E ≤ k ∧ k ≤ E ∧ i = .int .i64 k ∧ Hid (Gu.port (lef l E E) = pt l E E k)) (fun i => E - (intOf i).toNat)
    case atStart => exact ⟨E, by omega, Nat.le_refl _, rfl, Lib.hid (by unfold pt; rw [if_pos rfl])⟩
    case round =>
      obtain ⟨k, hEk, hk, rfl, HV⟩ := hrel
      obtain rfl : k = E := by omega
      have hp := Lib.hid (HV.out.trans (pt_end l k k))
      cases oN : Gu.named (lef l k f)
      · have FE := Lib.hid (show plc f (lef l k f) = -1 by rw [HP.out, hp.out, oN]; rfl)
        go_wp2_with fail
        refine (rhost_any l hl f k hfE (by omega) _).mono ?_
        rw [oN]
        rintro e w' ⟨rfl, rfl⟩
        go_wp2_with fail
        go_ret
        exact ⟨ret_int FE.out.symm, rfl⟩
      · have FE := Lib.hid (show plc f (lef l k f) = (k : Int) by rw [HP.out, hp.out, oN]; rfl)
        go_wp2_with fail
        refine (rhost_any l hl f k hfE (by omega) _).mono ?_
        rw [oN]
        rintro e w' ⟨rfl, rfl⟩
        go_wp2_with fail
        go_ret
        exact ⟨ret_int FE.out.symm, rfl⟩
set_option maxHeartbeats 1600000 in
theorem rplace_nil (l : Pc.B) (hl : l.length ≤ 1000000) (f : Nat) (hf : f ≤ l.length) (w : World) : Calls Try.prog 32 #[.string ⟨l.toArray⟩, .int .i64 f, .int .i64 f] w fun e w' => e = .returned (.int .i64 (plc f (lef l f f))) ∧ w = w' := by
  have H58 := Lib.hid (fun w => last_any l hl 58 f f (by omega) hf w)
  rw [show (((58 : UInt8).toNat : Int)) = 58 from rfl, lv_start] at H58
  have FE := Lib.hid (show plc f (lef l f f) = (f : Int) by rw [lef_nil l f f (Nat.le_refl _)]; unfold plc; simp [Gu.placeN, Gu.lst, Gu.port, Gu.named])
  have HN : Hid (Gu.named (lef l f f) = true) := Lib.hid (by rw [lef_nil l f f (Nat.le_refl _)]; rfl)
  go_enter Try.func32, Try.ntmps32
  go_wp2_with fail
  refine (H58.out _).mono ?_
  rintro e w' ⟨rfl, rfl⟩
  go_wp2_with fail
  go_loop [8] (fun i => i = .int .i64 f) (fun _ => 0)
  case atStart => rfl
  case round =>
    subst hrel
    go_wp2_with fail
    refine (rhost_any l hl f f (Nat.le_refl _) hf _).mono ?_
    rw [HN.out]
    rintro e w' ⟨rfl, rfl⟩
    go_wp2_with fail
    go_ret
    exact ⟨ret_int FE.out.symm, rfl⟩
theorem rplace_any (l : Pc.B) (hl : l.length ≤ 1000000) (f t : Nat) (hf : f ≤ t) (ht : t ≤ l.length) (w : World) : Calls Try.prog 32 #[.string ⟨l.toArray⟩, .int .i64 f, .int .i64 t] w fun e w' => e = .returned (.int .i64 (plc f (lef l t f))) ∧ w = w' := by
  by_cases h : (lef l t f).head? = some 91
  · have hft : f < t := by
      by_cases g : f < t
      · exact g
      · rw [lef_nil l t f (by omega)] at h; cases h
    rw [head_lef l f t hft ht] at h
    exact rplace_br l hl f t hft ht (by injection h) w
  · by_cases hft : f < t
    · exact rplace_pl l hl f t hf hft ht h w
    · obtain rfl : f = t := by omega
      exact rplace_nil l hl f ht w
end Go.Proofs.Ytpccfagbmbbpkaa
