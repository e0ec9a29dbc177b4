/-
  The document's own answer for layer 20: Parse, the ways with an authority and no scheme.
-/
import Derived.Test.YtpccfagbmbbpkaaRefE
namespace Go.Proofs.Ytpccfagbmbbpkaa
open Go.RowKit Go.Proofs.YtpccfagbmbbpkaaW.PrintWords

set_option maxRecDepth 100000 in
set_option maxHeartbeats 3200000 in
theorem rp_z_no_no (l : Pc.B) (T : Nat) (h : Mk l T) (e : Nat) (hs : conv (Gu.sch 0 (l.take T)) = 0) (he : fst [63] (l.take T) 0 = e) (heT : e ≤ T) (hp : List.isPrefixOf [47] (lef l e 0) = true) (hp2 : List.isPrefixOf [47, 47] (lef l e 0) = true) (hp3 : List.isPrefixOf [47, 47, 47] (lef l e 0) = false) (h2e : 2 ≤ e) (t : Nat) (ht : fst [47] (l.take e) 2 = t) (hft : 2 ≤ t) (hte : t ≤ e) (hsp : lv 64 l 2 t = -1) (hpl : plc 2 (lef l t 2) = -1) (w : World) : Calls Try.prog 10 #[.string ⟨l.toArray⟩] w fun r w' => r = .returned (res none) ∧ Below w.heap.size w w' := by
  have hl := h.hl
  have hTl := h.hTl
  have HT := Lib.hid (fun w => first_any l [35] hl (by decide) 0 (by omega) w)
  rw [h.hT] at HT
  have HE1 := Lib.hid (fun w => escapes_any l hl T l.length hTl (Nat.le_refl _) w)
  rw [h.hv] at HE1
  have HC : Hid (∀ k (h : k < T), ¬ (l[k]'(by omega)).toNat < 32 ∧ (l[k]'(by omega)).toNat ≠ 127) := Lib.hid (fun k g => h.hc k g (by omega))
  clear h
  have HS := Lib.hid (fun w => rscheme_any l hl T hTl w)
  rw [hs] at HS
  have hlT : (l.take T).length = T := by simp; omega
  have hle : (l.take e).length = e := by simp; omega
  have HF := Lib.hid (fun w => first_any (l.take T) [63] (by omega) (by decide) 0 (by omega) w)
  rw [he] at HF
  have HP := Lib.hid (fun w => starts_any (l.take e) [47] (by omega) (by decide) (by decide) 0 (by omega) w)
  have hp' : List.isPrefixOf [47] ((l.take e).drop 0) = true := hp
  rw [hp'] at HP
  have f1 : (0 : Int) ≤ (T : Int) := by omega
  have f2 : (T : Int) ≤ (l.length : Int) := by omega
  have f3 : (0 : Int) ≤ (e : Int) := by omega
  have f4 : (e : Int) ≤ (l.length : Int) := by omega
  have hel : e ≤ l.length := by omega
  clear hs he hp hp'
  have HP2 := Lib.hid (fun w => starts_any (l.take e) [47, 47] (by omega) (by decide) (by decide) 0 (by omega) w)
  have hp2' : List.isPrefixOf [47, 47] ((l.take e).drop 0) = true := hp2
  rw [hp2'] at HP2
  clear hp2 hp2'
  have HP3 := Lib.hid (fun w => starts_any (l.take e) [47, 47, 47] (by omega) (by decide) (by decide) 0 (by omega) w)
  have hp3' : List.isPrefixOf [47, 47, 47] ((l.take e).drop 0) = false := hp3
  rw [hp3'] at HP3
  clear hp3 hp3'
  have HFT := Lib.hid (fun w => first_any (l.take e) [47] (by omega) (by decide) 2 (by omega) w)
  rw [ht] at HFT
  have HL := Lib.hid (fun w => last_any l hl 64 2 t hft (by omega) w)
  rw [show (((64 : UInt8).toNat : Int)) = 64 from rfl, hsp] at HL
  have htl : (t : Int) ≤ (l.length : Int) := by omega
  have hte' : (t : Int) ≤ (e : Int) := by omega
  clear ht
  clear hsp
  have HPL := Lib.hid (fun w => rplace_any l hl 2 t (by omega) (by omega) w)
  rw [hpl] at HPL
  clear hpl
  go_enter Try.func10, Try.ntmps10
  go_wp2_with fail
  refine (HT.out _).mono ?_
  rintro e w' ⟨rfl, rfl⟩
  go_wp2_with fail
  refine (HE1.out _).mono ?_
  rintro e w' ⟨rfl, rfl⟩
  go_wp2_with fail
  go_loop [5] (fun i => ∃ k : Nat, k ≤ T ∧ i = .int .i64 k) (fun i => T - (intOf i).toNat)
  case atStart => exact ⟨0, by omega, rfl⟩
  case round =>
    obtain ⟨k, hk, rfl⟩ := hrel
    by_cases hlt : k < T
    · have hkl : k < l.length := by omega
      have hc1 := HC.out k hlt
      have hb := l[k].toNat_lt
      have q1 : decide ((l[k].toNat : Int) < 32) = false := by simp; omega
      have q2 : ((l[k].toNat : Int) == 127) = false := by rw [beq_eq_false_iff_ne]; omega
      clear hc1
      go_wp2_with fail
      go_round
      case rel => exact ⟨k + 1, by omega, by go_num⟩
      case measure => simp [intOf]; omega
    · obtain rfl : k = T := by omega
      clear HC
      go_wp2_with fail
      refine (HS.out _).mono ?_
      rintro e w' ⟨rfl, rfl⟩
      go_wp2_with fail
      refine (HF.out _).mono ?_
      rintro e w' ⟨rfl, rfl⟩
      go_wp2_with fail
      refine (HP.out _).mono ?_
      rintro e w' ⟨rfl, rfl⟩
      go_wp2_with fail
      refine (HP2.out _).mono ?_
      rintro e w' ⟨rfl, rfl⟩
      go_wp2_with fail
      refine (HP3.out _).mono ?_
      rintro e w' ⟨rfl, rfl⟩
      go_wp2_with fail
      refine (HFT.out _).mono ?_
      rintro e w' ⟨rfl, rfl⟩
      go_wp2_with fail
      refine (HL.out _).mono ?_
      rintro e w' ⟨rfl, rfl⟩
      go_wp2_with fail
      refine (HPL.out _).mono ?_
      rintro e w' ⟨rfl, rfl⟩
      go_wp2_with fail
      exact bodyPost_ret (v := res none) (by first | (simp [results, Try.results10, go_sem, res]; done) | (simp [results, Try.results10, go_sem, res]; rfl)) rfl ⟨rfl, by (repeat (first | exact Below.refl _ _ | assumption | refine Below.drew ?_ | refine bl_drewN ?_ | refine Below.alloc ?_ (by first | exact Nat.le_refl _ | (simp; done) | (simp; omega) | omega) _ | refine Below.setCell ?_ (by first | exact Nat.le_refl _ | (simp; done) | (simp; omega) | omega) _))⟩
set_option maxRecDepth 100000 in
set_option maxHeartbeats 3200000 in
theorem rp_z_no_yn (l : Pc.B) (T : Nat) (h : Mk l T) (e : Nat) (hs : conv (Gu.sch 0 (l.take T)) = 0) (he : fst [63] (l.take T) 0 = e) (heT : e ≤ T) (hp : List.isPrefixOf [47] (lef l e 0) = true) (hp2 : List.isPrefixOf [47, 47] (lef l e 0) = true) (hp3 : List.isPrefixOf [47, 47, 47] (lef l e 0) = false) (h2e : 2 ≤ e) (t : Nat) (ht : fst [47] (l.take e) 2 = t) (hft : 2 ≤ t) (hte : t ≤ e) (hsp : lv 64 l 2 t = -1) (h2 : Nat) (hpl : plc 2 (lef l t 2) = (h2 : Int)) (hgh : 2 ≤ h2) (hht : h2 ≤ t) (hv2 : Pc.valid (lef l e t) = false) (w : World) : Calls Try.prog 10 #[.string ⟨l.toArray⟩] w fun r w' => r = .returned (res none) ∧ Below w.heap.size w w' := by
  have hl := h.hl
  have hTl := h.hTl
  have HT := Lib.hid (fun w => first_any l [35] hl (by decide) 0 (by omega) w)
  rw [h.hT] at HT
  have HE1 := Lib.hid (fun w => escapes_any l hl T l.length hTl (Nat.le_refl _) w)
  rw [h.hv] at HE1
  have HC : Hid (∀ k (h : k < T), ¬ (l[k]'(by omega)).toNat < 32 ∧ (l[k]'(by omega)).toNat ≠ 127) := Lib.hid (fun k g => h.hc k g (by omega))
  clear h
  have HS := Lib.hid (fun w => rscheme_any l hl T hTl w)
  rw [hs] at HS
  have hlT : (l.take T).length = T := by simp; omega
  have hle : (l.take e).length = e := by simp; omega
  have HF := Lib.hid (fun w => first_any (l.take T) [63] (by omega) (by decide) 0 (by omega) w)
  rw [he] at HF
  have HP := Lib.hid (fun w => starts_any (l.take e) [47] (by omega) (by decide) (by decide) 0 (by omega) w)
  have hp' : List.isPrefixOf [47] ((l.take e).drop 0) = true := hp
  rw [hp'] at HP
  have f1 : (0 : Int) ≤ (T : Int) := by omega
  have f2 : (T : Int) ≤ (l.length : Int) := by omega
  have f3 : (0 : Int) ≤ (e : Int) := by omega
  have f4 : (e : Int) ≤ (l.length : Int) := by omega
  have hel : e ≤ l.length := by omega
  clear hs he hp hp'
  have HP2 := Lib.hid (fun w => starts_any (l.take e) [47, 47] (by omega) (by decide) (by decide) 0 (by omega) w)
  have hp2' : List.isPrefixOf [47, 47] ((l.take e).drop 0) = true := hp2
  rw [hp2'] at HP2
  clear hp2 hp2'
  have HP3 := Lib.hid (fun w => starts_any (l.take e) [47, 47, 47] (by omega) (by decide) (by decide) 0 (by omega) w)
  have hp3' : List.isPrefixOf [47, 47, 47] ((l.take e).drop 0) = false := hp3
  rw [hp3'] at HP3
  clear hp3 hp3'
  have HFT := Lib.hid (fun w => first_any (l.take e) [47] (by omega) (by decide) 2 (by omega) w)
  rw [ht] at HFT
  have HL := Lib.hid (fun w => last_any l hl 64 2 t hft (by omega) w)
  rw [show (((64 : UInt8).toNat : Int)) = 64 from rfl, hsp] at HL
  have htl : (t : Int) ≤ (l.length : Int) := by omega
  have hte' : (t : Int) ≤ (e : Int) := by omega
  clear ht
  clear hsp
  have HPL := Lib.hid (fun w => rplace_any l hl 2 t (by omega) (by omega) w)
  rw [hpl] at HPL
  clear hpl
  have HV2 := Lib.hid (fun w => escapes_any l hl t e (by omega) (by omega) w)
  rw [hv2] at HV2
  clear hv2
  have g0 : (0 : Int) ≤ (h2 : Int) := by omega
  have g1 : (h2 : Int) ≤ (l.length : Int) := by omega
  have g2 : (2 : Int) ≤ (h2 : Int) := by omega
  go_enter Try.func10, Try.ntmps10
  go_wp2_with fail
  refine (HT.out _).mono ?_
  rintro e w' ⟨rfl, rfl⟩
  go_wp2_with fail
  refine (HE1.out _).mono ?_
  rintro e w' ⟨rfl, rfl⟩
  go_wp2_with fail
  go_loop [5] (fun i => ∃ k : Nat, k ≤ T ∧ i = .int .i64 k) (fun i => T - (intOf i).toNat)
  case atStart => exact ⟨0, by omega, rfl⟩
  case round =>
    obtain ⟨k, hk, rfl⟩ := hrel
    by_cases hlt : k < T
    · have hkl : k < l.length := by omega
      have hc1 := HC.out k hlt
      have hb := l[k].toNat_lt
      have q1 : decide ((l[k].toNat : Int) < 32) = false := by simp; omega
      have q2 : ((l[k].toNat : Int) == 127) = false := by rw [beq_eq_false_iff_ne]; omega
      clear hc1
      go_wp2_with fail
      go_round
      case rel => exact ⟨k + 1, by omega, by go_num⟩
      case measure => simp [intOf]; omega
    · obtain rfl : k = T := by omega
      clear HC
      go_wp2_with fail
      refine (HS.out _).mono ?_
      rintro e w' ⟨rfl, rfl⟩
      go_wp2_with fail
      refine (HF.out _).mono ?_
      rintro e w' ⟨rfl, rfl⟩
      go_wp2_with fail
      refine (HP.out _).mono ?_
      rintro e w' ⟨rfl, rfl⟩
      go_wp2_with fail
      refine (HP2.out _).mono ?_
      rintro e w' ⟨rfl, rfl⟩
      go_wp2_with fail
      refine (HP3.out _).mono ?_
      rintro e w' ⟨rfl, rfl⟩
      go_wp2_with fail
      refine (HFT.out _).mono ?_
      rintro e w' ⟨rfl, rfl⟩
      go_wp2_with fail
      refine (HL.out _).mono ?_
      rintro e w' ⟨rfl, rfl⟩
      go_wp2_with fail
      refine (HPL.out _).mono ?_
      rintro e w' ⟨rfl, rfl⟩
      go_wp2_with fail
      refine (HV2.out _).mono ?_
      rintro e w' ⟨rfl, rfl⟩
      go_wp2_with fail
      exact bodyPost_ret (v := res none) (by first | (simp [results, Try.results10, go_sem, res]; done) | (simp [results, Try.results10, go_sem, res]; rfl)) rfl ⟨rfl, by (repeat (first | exact Below.refl _ _ | assumption | refine Below.drew ?_ | refine bl_drewN ?_ | refine Below.alloc ?_ (by first | exact Nat.le_refl _ | (simp; done) | (simp; omega) | omega) _ | refine Below.setCell ?_ (by first | exact Nat.le_refl _ | (simp; done) | (simp; omega) | omega) _))⟩
set_option maxRecDepth 100000 in
set_option maxHeartbeats 3200000 in
theorem rp_z_no_yy (l : Pc.B) (T : Nat) (h : Mk l T) (e : Nat) (hs : conv (Gu.sch 0 (l.take T)) = 0) (he : fst [63] (l.take T) 0 = e) (heT : e ≤ T) (hp : List.isPrefixOf [47] (lef l e 0) = true) (hp2 : List.isPrefixOf [47, 47] (lef l e 0) = true) (hp3 : List.isPrefixOf [47, 47, 47] (lef l e 0) = false) (h2e : 2 ≤ e) (t : Nat) (ht : fst [47] (l.take e) 2 = t) (hft : 2 ≤ t) (hte : t ≤ e) (hsp : lv 64 l 2 t = -1) (h2 : Nat) (hpl : plc 2 (lef l t 2) = (h2 : Int)) (hgh : 2 ≤ h2) (hht : h2 ≤ t) (hv2 : Pc.valid (lef l e t) = true) (w : World) : Calls Try.prog 10 #[.string ⟨l.toArray⟩] w fun r w' => r = .returned (res (some (lef l h2 2, lef l e t))) ∧ Below w.heap.size w w' := by
  have hl := h.hl
  have hTl := h.hTl
  have HT := Lib.hid (fun w => first_any l [35] hl (by decide) 0 (by omega) w)
  rw [h.hT] at HT
  have HE1 := Lib.hid (fun w => escapes_any l hl T l.length hTl (Nat.le_refl _) w)
  rw [h.hv] at HE1
  have HC : Hid (∀ k (h : k < T), ¬ (l[k]'(by omega)).toNat < 32 ∧ (l[k]'(by omega)).toNat ≠ 127) := Lib.hid (fun k g => h.hc k g (by omega))
  clear h
  have HS := Lib.hid (fun w => rscheme_any l hl T hTl w)
  rw [hs] at HS
  have hlT : (l.take T).length = T := by simp; omega
  have hle : (l.take e).length = e := by simp; omega
  have HF := Lib.hid (fun w => first_any (l.take T) [63] (by omega) (by decide) 0 (by omega) w)
  rw [he] at HF
  have HP := Lib.hid (fun w => starts_any (l.take e) [47] (by omega) (by decide) (by decide) 0 (by omega) w)
  have hp' : List.isPrefixOf [47] ((l.take e).drop 0) = true := hp
  rw [hp'] at HP
  have f1 : (0 : Int) ≤ (T : Int) := by omega
  have f2 : (T : Int) ≤ (l.length : Int) := by omega
  have f3 : (0 : Int) ≤ (e : Int) := by omega
  have f4 : (e : Int) ≤ (l.length : Int) := by omega
  have hel : e ≤ l.length := by omega
  clear hs he hp hp'
  have HP2 := Lib.hid (fun w => starts_any (l.take e) [47, 47] (by omega) (by decide) (by decide) 0 (by omega) w)
  have hp2' : List.isPrefixOf [47, 47] ((l.take e).drop 0) = true := hp2
  rw [hp2'] at HP2
  clear hp2 hp2'
  have HP3 := Lib.hid (fun w => starts_any (l.take e) [47, 47, 47] (by omega) (by decide) (by decide) 0 (by omega) w)
  have hp3' : List.isPrefixOf [47, 47, 47] ((l.take e).drop 0) = false := hp3
  rw [hp3'] at HP3
  clear hp3 hp3'
  have HFT := Lib.hid (fun w => first_any (l.take e) [47] (by omega) (by decide) 2 (by omega) w)
  rw [ht] at HFT
  have HL := Lib.hid (fun w => last_any l hl 64 2 t hft (by omega) w)
  rw [show (((64 : UInt8).toNat : Int)) = 64 from rfl, hsp] at HL
  have htl : (t : Int) ≤ (l.length : Int) := by omega
  have hte' : (t : Int) ≤ (e : Int) := by omega
  clear ht
  clear hsp
  have HPL := Lib.hid (fun w => rplace_any l hl 2 t (by omega) (by omega) w)
  rw [hpl] at HPL
  clear hpl
  have HV2 := Lib.hid (fun w => escapes_any l hl t e (by omega) (by omega) w)
  rw [hv2] at HV2
  clear hv2
  have g0 : (0 : Int) ≤ (h2 : Int) := by omega
  have g1 : (h2 : Int) ≤ (l.length : Int) := by omega
  have g2 : (2 : Int) ≤ (h2 : Int) := by omega
  go_enter Try.func10, Try.ntmps10
  go_wp2_with fail
  refine (HT.out _).mono ?_
  rintro e w' ⟨rfl, rfl⟩
  go_wp2_with fail
  refine (HE1.out _).mono ?_
  rintro e w' ⟨rfl, rfl⟩
  go_wp2_with fail
  go_loop [5] (fun i => ∃ k : Nat, k ≤ T ∧ i = .int .i64 k) (fun i => T - (intOf i).toNat)
  case atStart => exact ⟨0, by omega, rfl⟩
  case round =>
    obtain ⟨k, hk, rfl⟩ := hrel
    by_cases hlt : k < T
    · have hkl : k < l.length := by omega
      have hc1 := HC.out k hlt
      have hb := l[k].toNat_lt
      have q1 : decide ((l[k].toNat : Int) < 32) = false := by simp; omega
      have q2 : ((l[k].toNat : Int) == 127) = false := by rw [beq_eq_false_iff_ne]; omega
      clear hc1
      go_wp2_with fail
      go_round
      case rel => exact ⟨k + 1, by omega, by go_num⟩
      case measure => simp [intOf]; omega
    · obtain rfl : k = T := by omega
      clear HC
      go_wp2_with fail
      refine (HS.out _).mono ?_
      rintro e w' ⟨rfl, rfl⟩
      go_wp2_with fail
      refine (HF.out _).mono ?_
      rintro e w' ⟨rfl, rfl⟩
      go_wp2_with fail
      refine (HP.out _).mono ?_
      rintro e w' ⟨rfl, rfl⟩
      go_wp2_with fail
      refine (HP2.out _).mono ?_
      rintro e w' ⟨rfl, rfl⟩
      go_wp2_with fail
      refine (HP3.out _).mono ?_
      rintro e w' ⟨rfl, rfl⟩
      go_wp2_with fail
      refine (HFT.out _).mono ?_
      rintro e w' ⟨rfl, rfl⟩
      go_wp2_with fail
      refine (HL.out _).mono ?_
      rintro e w' ⟨rfl, rfl⟩
      go_wp2_with fail
      refine (HPL.out _).mono ?_
      rintro e w' ⟨rfl, rfl⟩
      go_wp2_with fail
      refine (HV2.out _).mono ?_
      rintro e w' ⟨rfl, rfl⟩
      go_wp2_with fail
      exact bodyPost_ret (v := res (some (lef l h2 2, lef l e t))) (by first | (simp [results, Try.results10, go_sem, res, lef, List.drop_take]; done) | (simp [results, Try.results10, go_sem, res, lef, List.drop_take]; rfl)) rfl ⟨rfl, by (repeat (first | exact Below.refl _ _ | assumption | refine Below.drew ?_ | refine bl_drewN ?_ | refine Below.alloc ?_ (by first | exact Nat.le_refl _ | (simp; done) | (simp; omega) | omega) _ | refine Below.setCell ?_ (by first | exact Nat.le_refl _ | (simp; done) | (simp; omega) | omega) _))⟩
set_option maxRecDepth 100000 in
set_option maxHeartbeats 3200000 in
theorem rp_z_bad (l : Pc.B) (T : Nat) (h : Mk l T) (e : Nat) (hs : conv (Gu.sch 0 (l.take T)) = 0) (he : fst [63] (l.take T) 0 = e) (heT : e ≤ T) (hp : List.isPrefixOf [47] (lef l e 0) = true) (hp2 : List.isPrefixOf [47, 47] (lef l e 0) = true) (hp3 : List.isPrefixOf [47, 47, 47] (lef l e 0) = false) (h2e : 2 ≤ e) (t : Nat) (ht : fst [47] (l.take e) 2 = t) (hft : 2 ≤ t) (hte : t ≤ e) (p : Nat) (hsp : lv 64 l 2 t = (p : Int)) (hfp : 2 ≤ p) (hpt : p < t) (hus : Gu.usr (lef l p 2) = false) (w : World) : Calls Try.prog 10 #[.string ⟨l.toArray⟩] w fun r w' => r = .returned (res none) ∧ Below w.heap.size w w' := by
  have hl := h.hl
  have hTl := h.hTl
  have HT := Lib.hid (fun w => first_any l [35] hl (by decide) 0 (by omega) w)
  rw [h.hT] at HT
  have HE1 := Lib.hid (fun w => escapes_any l hl T l.length hTl (Nat.le_refl _) w)
  rw [h.hv] at HE1
  have HC : Hid (∀ k (h : k < T), ¬ (l[k]'(by omega)).toNat < 32 ∧ (l[k]'(by omega)).toNat ≠ 127) := Lib.hid (fun k g => h.hc k g (by omega))
  clear h
  have HS := Lib.hid (fun w => rscheme_any l hl T hTl w)
  rw [hs] at HS
  have hlT : (l.take T).length = T := by simp; omega
  have hle : (l.take e).length = e := by simp; omega
  have HF := Lib.hid (fun w => first_any (l.take T) [63] (by omega) (by decide) 0 (by omega) w)
  rw [he] at HF
  have HP := Lib.hid (fun w => starts_any (l.take e) [47] (by omega) (by decide) (by decide) 0 (by omega) w)
  have hp' : List.isPrefixOf [47] ((l.take e).drop 0) = true := hp
  rw [hp'] at HP
  have f1 : (0 : Int) ≤ (T : Int) := by omega
  have f2 : (T : Int) ≤ (l.length : Int) := by omega
  have f3 : (0 : Int) ≤ (e : Int) := by omega
  have f4 : (e : Int) ≤ (l.length : Int) := by omega
  have hel : e ≤ l.length := by omega
  clear hs he hp hp'
  have HP2 := Lib.hid (fun w => starts_any (l.take e) [47, 47] (by omega) (by decide) (by decide) 0 (by omega) w)
  have hp2' : List.isPrefixOf [47, 47] ((l.take e).drop 0) = true := hp2
  rw [hp2'] at HP2
  clear hp2 hp2'
  have HP3 := Lib.hid (fun w => starts_any (l.take e) [47, 47, 47] (by omega) (by decide) (by decide) 0 (by omega) w)
  have hp3' : List.isPrefixOf [47, 47, 47] ((l.take e).drop 0) = false := hp3
  rw [hp3'] at HP3
  clear hp3 hp3'
  have HFT := Lib.hid (fun w => first_any (l.take e) [47] (by omega) (by decide) 2 (by omega) w)
  rw [ht] at HFT
  have HL := Lib.hid (fun w => last_any l hl 64 2 t hft (by omega) w)
  rw [show (((64 : UInt8).toNat : Int)) = 64 from rfl, hsp] at HL
  have htl : (t : Int) ≤ (l.length : Int) := by omega
  have hte' : (t : Int) ≤ (e : Int) := by omega
  clear ht
  have HUS := Lib.hid (fun w => user_any l hl 2 p hfp (by omega) w)
  rw [hus] at HUS
  have p0 : (0 : Int) ≤ (p : Int) := by omega
  have q8 : IntKind.i64.wrap ((p : Int) + 1) = ((p + 1 : Nat) : Int) := by rw [IntWalk.i64_in _ (by omega)]; omega
  clear hsp hus
  go_enter Try.func10, Try.ntmps10
  go_wp2_with fail
  refine (HT.out _).mono ?_
  rintro e w' ⟨rfl, rfl⟩
  go_wp2_with fail
  refine (HE1.out _).mono ?_
  rintro e w' ⟨rfl, rfl⟩
  go_wp2_with fail
  go_loop [5] (fun i => ∃ k : Nat, k ≤ T ∧ i = .int .i64 k) (fun i => T - (intOf i).toNat)
  case atStart => exact ⟨0, by omega, rfl⟩
  case round =>
    obtain ⟨k, hk, rfl⟩ := hrel
    by_cases hlt : k < T
    · have hkl : k < l.length := by omega
      have hc1 := HC.out k hlt
      have hb := l[k].toNat_lt
      have q1 : decide ((l[k].toNat : Int) < 32) = false := by simp; omega
      have q2 : ((l[k].toNat : Int) == 127) = false := by rw [beq_eq_false_iff_ne]; omega
      clear hc1
      go_wp2_with fail
      go_round
      case rel => exact ⟨k + 1, by omega, by go_num⟩
      case measure => simp [intOf]; omega
    · obtain rfl : k = T := by omega
      clear HC
      go_wp2_with fail
      refine (HS.out _).mono ?_
      rintro e w' ⟨rfl, rfl⟩
      go_wp2_with fail
      refine (HF.out _).mono ?_
      rintro e w' ⟨rfl, rfl⟩
      go_wp2_with fail
      refine (HP.out _).mono ?_
      rintro e w' ⟨rfl, rfl⟩
      go_wp2_with fail
      refine (HP2.out _).mono ?_
      rintro e w' ⟨rfl, rfl⟩
      go_wp2_with fail
      refine (HP3.out _).mono ?_
      rintro e w' ⟨rfl, rfl⟩
      go_wp2_with fail
      refine (HFT.out _).mono ?_
      rintro e w' ⟨rfl, rfl⟩
      go_wp2_with fail
      refine (HL.out _).mono ?_
      rintro e w' ⟨rfl, rfl⟩
      go_wp2_with fail
      refine (HUS.out _).mono ?_
      rintro e w' ⟨rfl, rfl⟩
      go_wp2_with fail
      exact bodyPost_ret (v := res none) (by first | (simp [results, Try.results10, go_sem, res]; done) | (simp [results, Try.results10, go_sem, res]; rfl)) rfl ⟨rfl, by (repeat (first | exact Below.refl _ _ | assumption | refine Below.drew ?_ | refine bl_drewN ?_ | refine Below.alloc ?_ (by first | exact Nat.le_refl _ | (simp; done) | (simp; omega) | omega) _ | refine Below.setCell ?_ (by first | exact Nat.le_refl _ | (simp; done) | (simp; omega) | omega) _))⟩
set_option maxRecDepth 100000 in
set_option maxHeartbeats 3200000 in
theorem rp_z_ok_no (l : Pc.B) (T : Nat) (h : Mk l T) (e : Nat) (hs : conv (Gu.sch 0 (l.take T)) = 0) (he : fst [63] (l.take T) 0 = e) (heT : e ≤ T) (hp : List.isPrefixOf [47] (lef l e 0) = true) (hp2 : List.isPrefixOf [47, 47] (lef l e 0) = true) (hp3 : List.isPrefixOf [47, 47, 47] (lef l e 0) = false) (h2e : 2 ≤ e) (t : Nat) (ht : fst [47] (l.take e) 2 = t) (hft : 2 ≤ t) (hte : t ≤ e) (p : Nat) (hsp : lv 64 l 2 t = (p : Int)) (hfp : 2 ≤ p) (hpt : p < t) (hus : Gu.usr (lef l p 2) = true) (hpl : plc (p + 1) (lef l t (p + 1)) = -1) (w : World) : Calls Try.prog 10 #[.string ⟨l.toArray⟩] w fun r w' => r = .returned (res none) ∧ Below w.heap.size w w' := by
  have hl := h.hl
  have hTl := h.hTl
  have HT := Lib.hid (fun w => first_any l [35] hl (by decide) 0 (by omega) w)
  rw [h.hT] at HT
  have HE1 := Lib.hid (fun w => escapes_any l hl T l.length hTl (Nat.le_refl _) w)
  rw [h.hv] at HE1
  have HC : Hid (∀ k (h : k < T), ¬ (l[k]'(by omega)).toNat < 32 ∧ (l[k]'(by omega)).toNat ≠ 127) := Lib.hid (fun k g => h.hc k g (by omega))
  clear h
  have HS := Lib.hid (fun w => rscheme_any l hl T hTl w)
  rw [hs] at HS
  have hlT : (l.take T).length = T := by simp; omega
  have hle : (l.take e).length = e := by simp; omega
  have HF := Lib.hid (fun w => first_any (l.take T) [63] (by omega) (by decide) 0 (by omega) w)
  rw [he] at HF
  have HP := Lib.hid (fun w => starts_any (l.take e) [47] (by omega) (by decide) (by decide) 0 (by omega) w)
  have hp' : List.isPrefixOf [47] ((l.take e).drop 0) = true := hp
  rw [hp'] at HP
  have f1 : (0 : Int) ≤ (T : Int) := by omega
  have f2 : (T : Int) ≤ (l.length : Int) := by omega
  have f3 : (0 : Int) ≤ (e : Int) := by omega
  have f4 : (e : Int) ≤ (l.length : Int) := by omega
  have hel : e ≤ l.length := by omega
  clear hs he hp hp'
  have HP2 := Lib.hid (fun w => starts_any (l.take e) [47, 47] (by omega) (by decide) (by decide) 0 (by omega) w)
  have hp2' : List.isPrefixOf [47, 47] ((l.take e).drop 0) = true := hp2
  rw [hp2'] at HP2
  clear hp2 hp2'
  have HP3 := Lib.hid (fun w => starts_any (l.take e) [47, 47, 47] (by omega) (by decide) (by decide) 0 (by omega) w)
  have hp3' : List.isPrefixOf [47, 47, 47] ((l.take e).drop 0) = false := hp3
  rw [hp3'] at HP3
  clear hp3 hp3'
  have HFT := Lib.hid (fun w => first_any (l.take e) [47] (by omega) (by decide) 2 (by omega) w)
  rw [ht] at HFT
  have HL := Lib.hid (fun w => last_any l hl 64 2 t hft (by omega) w)
  rw [show (((64 : UInt8).toNat : Int)) = 64 from rfl, hsp] at HL
  have htl : (t : Int) ≤ (l.length : Int) := by omega
  have hte' : (t : Int) ≤ (e : Int) := by omega
  clear ht
  have HUS := Lib.hid (fun w => user_any l hl 2 p hfp (by omega) w)
  rw [hus] at HUS
  have p0 : (0 : Int) ≤ (p : Int) := by omega
  have q8 : IntKind.i64.wrap ((p : Int) + 1) = ((p + 1 : Nat) : Int) := by rw [IntWalk.i64_in _ (by omega)]; omega
  clear hsp hus
  have HPL := Lib.hid (fun w => rplace_any l hl (p + 1) t (by omega) (by omega) w)
  rw [hpl] at HPL
  clear hpl
  go_enter Try.func10, Try.ntmps10
  go_wp2_with fail
  refine (HT.out _).mono ?_
  rintro e w' ⟨rfl, rfl⟩
  go_wp2_with fail
  refine (HE1.out _).mono ?_
  rintro e w' ⟨rfl, rfl⟩
  go_wp2_with fail
  go_loop [5] (fun i => ∃ k : Nat, k ≤ T ∧ i = .int .i64 k) (fun i => T - (intOf i).toNat)
  case atStart => exact ⟨0, by omega, rfl⟩
  case round =>
    obtain ⟨k, hk, rfl⟩ := hrel
    by_cases hlt : k < T
    · have hkl : k < l.length := by omega
      have hc1 := HC.out k hlt
      have hb := l[k].toNat_lt
      have q1 : decide ((l[k].toNat : Int) < 32) = false := by simp; omega
      have q2 : ((l[k].toNat : Int) == 127) = false := by rw [beq_eq_false_iff_ne]; omega
      clear hc1
      go_wp2_with fail
      go_round
      case rel => exact ⟨k + 1, by omega, by go_num⟩
      case measure => simp [intOf]; omega
    · obtain rfl : k = T := by omega
      clear HC
      go_wp2_with fail
      refine (HS.out _).mono ?_
      rintro e w' ⟨rfl, rfl⟩
      go_wp2_with fail
      refine (HF.out _).mono ?_
      rintro e w' ⟨rfl, rfl⟩
      go_wp2_with fail
      refine (HP.out _).mono ?_
      rintro e w' ⟨rfl, rfl⟩
      go_wp2_with fail
      refine (HP2.out _).mono ?_
      rintro e w' ⟨rfl, rfl⟩
      go_wp2_with fail
      refine (HP3.out _).mono ?_
      rintro e w' ⟨rfl, rfl⟩
      go_wp2_with fail
      refine (HFT.out _).mono ?_
      rintro e w' ⟨rfl, rfl⟩
      go_wp2_with fail
      refine (HL.out _).mono ?_
      rintro e w' ⟨rfl, rfl⟩
      go_wp2_with fail
      refine (HUS.out _).mono ?_
      rintro e w' ⟨rfl, rfl⟩
      go_wp2_with fail
      refine (HPL.out _).mono ?_
      rintro e w' ⟨rfl, rfl⟩
      go_wp2_with fail
      exact bodyPost_ret (v := res none) (by first | (simp [results, Try.results10, go_sem, res]; done) | (simp [results, Try.results10, go_sem, res]; rfl)) rfl ⟨rfl, by (repeat (first | exact Below.refl _ _ | assumption | refine Below.drew ?_ | refine bl_drewN ?_ | refine Below.alloc ?_ (by first | exact Nat.le_refl _ | (simp; done) | (simp; omega) | omega) _ | refine Below.setCell ?_ (by first | exact Nat.le_refl _ | (simp; done) | (simp; omega) | omega) _))⟩
set_option maxRecDepth 100000 in
set_option maxHeartbeats 3200000 in
theorem rp_z_ok_yn (l : Pc.B) (T : Nat) (h : Mk l T) (e : Nat) (hs : conv (Gu.sch 0 (l.take T)) = 0) (he : fst [63] (l.take T) 0 = e) (heT : e ≤ T) (hp : List.isPrefixOf [47] (lef l e 0) = true) (hp2 : List.isPrefixOf [47, 47] (lef l e 0) = true) (hp3 : List.isPrefixOf [47, 47, 47] (lef l e 0) = false) (h2e : 2 ≤ e) (t : Nat) (ht : fst [47] (l.take e) 2 = t) (hft : 2 ≤ t) (hte : t ≤ e) (p : Nat) (hsp : lv 64 l 2 t = (p : Int)) (hfp : 2 ≤ p) (hpt : p < t) (hus : Gu.usr (lef l p 2) = true) (h2 : Nat) (hpl : plc (p + 1) (lef l t (p + 1)) = (h2 : Int)) (hgh : (p + 1) ≤ h2) (hht : h2 ≤ t) (hv2 : Pc.valid (lef l e t) = false) (w : World) : Calls Try.prog 10 #[.string ⟨l.toArray⟩] w fun r w' => r = .returned (res none) ∧ Below w.heap.size w w' := by
  have hl := h.hl
  have hTl := h.hTl
  have HT := Lib.hid (fun w => first_any l [35] hl (by decide) 0 (by omega) w)
  rw [h.hT] at HT
  have HE1 := Lib.hid (fun w => escapes_any l hl T l.length hTl (Nat.le_refl _) w)
  rw [h.hv] at HE1
  have HC : Hid (∀ k (h : k < T), ¬ (l[k]'(by omega)).toNat < 32 ∧ (l[k]'(by omega)).toNat ≠ 127) := Lib.hid (fun k g => h.hc k g (by omega))
  clear h
  have HS := Lib.hid (fun w => rscheme_any l hl T hTl w)
  rw [hs] at HS
  have hlT : (l.take T).length = T := by simp; omega
  have hle : (l.take e).length = e := by simp; omega
  have HF := Lib.hid (fun w => first_any (l.take T) [63] (by omega) (by decide) 0 (by omega) w)
  rw [he] at HF
  have HP := Lib.hid (fun w => starts_any (l.take e) [47] (by omega) (by decide) (by decide) 0 (by omega) w)
  have hp' : List.isPrefixOf [47] ((l.take e).drop 0) = true := hp
  rw [hp'] at HP
  have f1 : (0 : Int) ≤ (T : Int) := by omega
  have f2 : (T : Int) ≤ (l.length : Int) := by omega
  have f3 : (0 : Int) ≤ (e : Int) := by omega
  have f4 : (e : Int) ≤ (l.length : Int) := by omega
  have hel : e ≤ l.length := by omega
  clear hs he hp hp'
  have HP2 := Lib.hid (fun w => starts_any (l.take e) [47, 47] (by omega) (by decide) (by decide) 0 (by omega) w)
  have hp2' : List.isPrefixOf [47, 47] ((l.take e).drop 0) = true := hp2
  rw [hp2'] at HP2
  clear hp2 hp2'
  have HP3 := Lib.hid (fun w => starts_any (l.take e) [47, 47, 47] (by omega) (by decide) (by decide) 0 (by omega) w)
  have hp3' : List.isPrefixOf [47, 47, 47] ((l.take e).drop 0) = false := hp3
  rw [hp3'] at HP3
  clear hp3 hp3'
  have HFT := Lib.hid (fun w => first_any (l.take e) [47] (by omega) (by decide) 2 (by omega) w)
  rw [ht] at HFT
  have HL := Lib.hid (fun w => last_any l hl 64 2 t hft (by omega) w)
  rw [show (((64 : UInt8).toNat : Int)) = 64 from rfl, hsp] at HL
  have htl : (t : Int) ≤ (l.length : Int) := by omega
  have hte' : (t : Int) ≤ (e : Int) := by omega
  clear ht
  have HUS := Lib.hid (fun w => user_any l hl 2 p hfp (by omega) w)
  rw [hus] at HUS
  have p0 : (0 : Int) ≤ (p : Int) := by omega
  have q8 : IntKind.i64.wrap ((p : Int) + 1) = ((p + 1 : Nat) : Int) := by rw [IntWalk.i64_in _ (by omega)]; omega
  clear hsp hus
  have HPL := Lib.hid (fun w => rplace_any l hl (p + 1) t (by omega) (by omega) w)
  rw [hpl] at HPL
  clear hpl
  have HV2 := Lib.hid (fun w => escapes_any l hl t e (by omega) (by omega) w)
  rw [hv2] at HV2
  clear hv2
  have g0 : (0 : Int) ≤ (h2 : Int) := by omega
  have g1 : (h2 : Int) ≤ (l.length : Int) := by omega
  have g2 : (((p + 1 : Nat) : Int) : Int) ≤ (h2 : Int) := by omega
  have g3 : (p : Int) + 1 ≤ (h2 : Int) := by omega
  go_enter Try.func10, Try.ntmps10
  go_wp2_with fail
  refine (HT.out _).mono ?_
  rintro e w' ⟨rfl, rfl⟩
  go_wp2_with fail
  refine (HE1.out _).mono ?_
  rintro e w' ⟨rfl, rfl⟩
  go_wp2_with fail
  go_loop [5] (fun i => ∃ k : Nat, k ≤ T ∧ i = .int .i64 k) (fun i => T - (intOf i).toNat)
  case atStart => exact ⟨0, by omega, rfl⟩
  case round =>
    obtain ⟨k, hk, rfl⟩ := hrel
    by_cases hlt : k < T
    · have hkl : k < l.length := by omega
      have hc1 := HC.out k hlt
      have hb := l[k].toNat_lt
      have q1 : decide ((l[k].toNat : Int) < 32) = false := by simp; omega
      have q2 : ((l[k].toNat : Int) == 127) = false := by rw [beq_eq_false_iff_ne]; omega
      clear hc1
      go_wp2_with fail
      go_round
      case rel => exact ⟨k + 1, by omega, by go_num⟩
      case measure => simp [intOf]; omega
    · obtain rfl : k = T := by omega
      clear HC
      go_wp2_with fail
      refine (HS.out _).mono ?_
      rintro e w' ⟨rfl, rfl⟩
      go_wp2_with fail
      refine (HF.out _).mono ?_
      rintro e w' ⟨rfl, rfl⟩
      go_wp2_with fail
      refine (HP.out _).mono ?_
      rintro e w' ⟨rfl, rfl⟩
      go_wp2_with fail
      refine (HP2.out _).mono ?_
      rintro e w' ⟨rfl, rfl⟩
      go_wp2_with fail
      refine (HP3.out _).mono ?_
      rintro e w' ⟨rfl, rfl⟩
      go_wp2_with fail
      refine (HFT.out _).mono ?_
      rintro e w' ⟨rfl, rfl⟩
      go_wp2_with fail
      refine (HL.out _).mono ?_
      rintro e w' ⟨rfl, rfl⟩
      go_wp2_with fail
      refine (HUS.out _).mono ?_
      rintro e w' ⟨rfl, rfl⟩
      go_wp2_with fail
      refine (HPL.out _).mono ?_
      rintro e w' ⟨rfl, rfl⟩
      go_wp2_with fail
      refine (HV2.out _).mono ?_
      rintro e w' ⟨rfl, rfl⟩
      go_wp2_with fail
      exact bodyPost_ret (v := res none) (by first | (simp [results, Try.results10, go_sem, res]; done) | (simp [results, Try.results10, go_sem, res]; rfl)) rfl ⟨rfl, by (repeat (first | exact Below.refl _ _ | assumption | refine Below.drew ?_ | refine bl_drewN ?_ | refine Below.alloc ?_ (by first | exact Nat.le_refl _ | (simp; done) | (simp; omega) | omega) _ | refine Below.setCell ?_ (by first | exact Nat.le_refl _ | (simp; done) | (simp; omega) | omega) _))⟩
set_option maxRecDepth 100000 in
set_option maxHeartbeats 3200000 in
theorem rp_z_ok_yy (l : Pc.B) (T : Nat) (h : Mk l T) (e : Nat) (hs : conv (Gu.sch 0 (l.take T)) = 0) (he : fst [63] (l.take T) 0 = e) (heT : e ≤ T) (hp : List.isPrefixOf [47] (lef l e 0) = true) (hp2 : List.isPrefixOf [47, 47] (lef l e 0) = true) (hp3 : List.isPrefixOf [47, 47, 47] (lef l e 0) = false) (h2e : 2 ≤ e) (t : Nat) (ht : fst [47] (l.take e) 2 = t) (hft : 2 ≤ t) (hte : t ≤ e) (p : Nat) (hsp : lv 64 l 2 t = (p : Int)) (hfp : 2 ≤ p) (hpt : p < t) (hus : Gu.usr (lef l p 2) = true) (h2 : Nat) (hpl : plc (p + 1) (lef l t (p + 1)) = (h2 : Int)) (hgh : (p + 1) ≤ h2) (hht : h2 ≤ t) (hv2 : Pc.valid (lef l e t) = true) (w : World) : Calls Try.prog 10 #[.string ⟨l.toArray⟩] w fun r w' => r = .returned (res (some (lef l h2 (p + 1), lef l e t))) ∧ Below w.heap.size w w' := by
  have hl := h.hl
  have hTl := h.hTl
  have HT := Lib.hid (fun w => first_any l [35] hl (by decide) 0 (by omega) w)
  rw [h.hT] at HT
  have HE1 := Lib.hid (fun w => escapes_any l hl T l.length hTl (Nat.le_refl _) w)
  rw [h.hv] at HE1
  have HC : Hid (∀ k (h : k < T), ¬ (l[k]'(by omega)).toNat < 32 ∧ (l[k]'(by omega)).toNat ≠ 127) := Lib.hid (fun k g => h.hc k g (by omega))
  clear h
  have HS := Lib.hid (fun w => rscheme_any l hl T hTl w)
  rw [hs] at HS
  have hlT : (l.take T).length = T := by simp; omega
  have hle : (l.take e).length = e := by simp; omega
  have HF := Lib.hid (fun w => first_any (l.take T) [63] (by omega) (by decide) 0 (by omega) w)
  rw [he] at HF
  have HP := Lib.hid (fun w => starts_any (l.take e) [47] (by omega) (by decide) (by decide) 0 (by omega) w)
  have hp' : List.isPrefixOf [47] ((l.take e).drop 0) = true := hp
  rw [hp'] at HP
  have f1 : (0 : Int) ≤ (T : Int) := by omega
  have f2 : (T : Int) ≤ (l.length : Int) := by omega
  have f3 : (0 : Int) ≤ (e : Int) := by omega
  have f4 : (e : Int) ≤ (l.length : Int) := by omega
  have hel : e ≤ l.length := by omega
  clear hs he hp hp'
  have HP2 := Lib.hid (fun w => starts_any (l.take e) [47, 47] (by omega) (by decide) (by decide) 0 (by omega) w)
  have hp2' : List.isPrefixOf [47, 47] ((l.take e).drop 0) = true := hp2
  rw [hp2'] at HP2
  clear hp2 hp2'
  have HP3 := Lib.hid (fun w => starts_any (l.take e) [47, 47, 47] (by omega) (by decide) (by decide) 0 (by omega) w)
  have hp3' : List.isPrefixOf [47, 47, 47] ((l.take e).drop 0) = false := hp3
  rw [hp3'] at HP3
  clear hp3 hp3'
  have HFT := Lib.hid (fun w => first_any (l.take e) [47] (by omega) (by decide) 2 (by omega) w)
  rw [ht] at HFT
  have HL := Lib.hid (fun w => last_any l hl 64 2 t hft (by omega) w)
  rw [show (((64 : UInt8).toNat : Int)) = 64 from rfl, hsp] at HL
  have htl : (t : Int) ≤ (l.length : Int) := by omega
  have hte' : (t : Int) ≤ (e : Int) := by omega
  clear ht
  have HUS := Lib.hid (fun w => user_any l hl 2 p hfp (by omega) w)
  rw [hus] at HUS
  have p0 : (0 : Int) ≤ (p : Int) := by omega
  have q8 : IntKind.i64.wrap ((p : Int) + 1) = ((p + 1 : Nat) : Int) := by rw [IntWalk.i64_in _ (by omega)]; omega
  clear hsp hus
  have HPL := Lib.hid (fun w => rplace_any l hl (p + 1) t (by omega) (by omega) w)
  rw [hpl] at HPL
  clear hpl
  have HV2 := Lib.hid (fun w => escapes_any l hl t e (by omega) (by omega) w)
  rw [hv2] at HV2
  clear hv2
  have g0 : (0 : Int) ≤ (h2 : Int) := by omega
  have g1 : (h2 : Int) ≤ (l.length : Int) := by omega
  have g2 : (((p + 1 : Nat) : Int) : Int) ≤ (h2 : Int) := by omega
  have g3 : (p : Int) + 1 ≤ (h2 : Int) := by omega
  go_enter Try.func10, Try.ntmps10
  go_wp2_with fail
  refine (HT.out _).mono ?_
  rintro e w' ⟨rfl, rfl⟩
  go_wp2_with fail
  refine (HE1.out _).mono ?_
  rintro e w' ⟨rfl, rfl⟩
  go_wp2_with fail
  go_loop [5] (fun i => ∃ k : Nat, k ≤ T ∧ i = .int .i64 k) (fun i => T - (intOf i).toNat)
  case atStart => exact ⟨0, by omega, rfl⟩
  case round =>
    obtain ⟨k, hk, rfl⟩ := hrel
    by_cases hlt : k < T
    · have hkl : k < l.length := by omega
      have hc1 := HC.out k hlt
      have hb := l[k].toNat_lt
      have q1 : decide ((l[k].toNat : Int) < 32) = false := by simp; omega
      have q2 : ((l[k].toNat : Int) == 127) = false := by rw [beq_eq_false_iff_ne]; omega
      clear hc1
      go_wp2_with fail
      go_round
      case rel => exact ⟨k + 1, by omega, by go_num⟩
      case measure => simp [intOf]; omega
    · obtain rfl : k = T := by omega
      clear HC
      go_wp2_with fail
      refine (HS.out _).mono ?_
      rintro e w' ⟨rfl, rfl⟩
      go_wp2_with fail
      refine (HF.out _).mono ?_
      rintro e w' ⟨rfl, rfl⟩
      go_wp2_with fail
      refine (HP.out _).mono ?_
      rintro e w' ⟨rfl, rfl⟩
      go_wp2_with fail
      refine (HP2.out _).mono ?_
      rintro e w' ⟨rfl, rfl⟩
      go_wp2_with fail
      refine (HP3.out _).mono ?_
      rintro e w' ⟨rfl, rfl⟩
      go_wp2_with fail
      refine (HFT.out _).mono ?_
      rintro e w' ⟨rfl, rfl⟩
      go_wp2_with fail
      refine (HL.out _).mono ?_
      rintro e w' ⟨rfl, rfl⟩
      go_wp2_with fail
      refine (HUS.out _).mono ?_
      rintro e w' ⟨rfl, rfl⟩
      go_wp2_with fail
      refine (HPL.out _).mono ?_
      rintro e w' ⟨rfl, rfl⟩
      go_wp2_with fail
      refine (HV2.out _).mono ?_
      rintro e w' ⟨rfl, rfl⟩
      go_wp2_with fail
      exact bodyPost_ret (v := res (some (lef l h2 (p + 1), lef l e t))) (by first | (simp [results, Try.results10, go_sem, res, lef, List.drop_take]; done) | (simp [results, Try.results10, go_sem, res, lef, List.drop_take]; rfl)) rfl ⟨rfl, by (repeat (first | exact Below.refl _ _ | assumption | refine Below.drew ?_ | refine bl_drewN ?_ | refine Below.alloc ?_ (by first | exact Nat.le_refl _ | (simp; done) | (simp; omega) | omega) _ | refine Below.setCell ?_ (by first | exact Nat.le_refl _ | (simp; done) | (simp; omega) | omega) _))⟩
end Go.Proofs.Ytpccfagbmbbpkaa
