/-
  The document's own answer for layer 20: Parse, the ways behind its marks.
-/
import Derived.Test.YtpccfagbmbbpkaaRefE
namespace Go.Proofs.Ytpccfagbmbbpkaa
open Go.RowKit Go.Proofs.YtpccfagbmbbpkaaW.PrintWords

set_option maxRecDepth 100000 in
set_option maxHeartbeats 3200000 in
theorem rp_6n (l : Pc.B) (T : Nat) (h : Mk l T) (e : Nat) (hs : conv (Gu.sch 0 (l.take T)) = 0) (he : fst [63] (l.take T) 0 = e) (heT : e ≤ T) (hp : List.isPrefixOf [47] (lef l e 0) = false) (hcc : ¬ fst [58] (l.take e) 0 < fst [47] (l.take e) 0) (hp2 : List.isPrefixOf [47, 47] (lef l e 0) = false) (hv2 : Pc.valid (lef l e 0) = false) (w : World) : Calls Try.prog 10 #[.string ⟨l.toArray⟩] w fun r w' => r = .returned (res none) ∧ Below w.heap.size w w' := by
  have hl := h.hl
  have hTl := h.hTl
  have HT := Lib.hid (fun w => first_any l [35] hl (by decide) 0 (by omega) w)
  rw [h.hT] at HT
  have HE1 := Lib.hid (fun w => escapes_any l hl T l.length hTl (Nat.le_refl _) w)
  rw [h.hv] at HE1
  have HC : Hid (∀ k (h : k < T), ¬ (l[k]'(by omega)).toNat < 32 ∧ (l[k]'(by omega)).toNat ≠ 127) := Lib.hid (fun k g => h.hc k g (by omega))
  clear h
  have HS := Lib.hid (fun w => rscheme_any l hl T hTl w)
  rw [hs] at HS
  have hlT : (l.take T).length = T := by simp; omega
  have hle : (l.take e).length = e := by simp; omega
  have HF := Lib.hid (fun w => first_any (l.take T) [63] (by omega) (by decide) 0 (by omega) w)
  rw [he] at HF
  have HP := Lib.hid (fun w => starts_any (l.take e) [47] (by omega) (by decide) (by decide) 0 (by omega) w)
  have hp' : List.isPrefixOf [47] ((l.take e).drop 0) = false := hp
  rw [hp'] at HP
  have f1 : (0 : Int) ≤ (T : Int) := by omega
  have f2 : (T : Int) ≤ (l.length : Int) := by omega
  have f3 : (0 : Int) ≤ (e : Int) := by omega
  have f4 : (e : Int) ≤ (l.length : Int) := by omega
  have hel : e ≤ l.length := by omega
  clear hs he hp hp'
  have HQ1 := Lib.hid (fun w => first_any (l.take e) [58] (by omega) (by decide) 0 (by omega) w)
  have HQ2 := Lib.hid (fun w => first_any (l.take e) [47] (by omega) (by decide) 0 (by omega) w)
  generalize fst [58] (l.take e) 0 = c1 at hcc HQ1
  generalize fst [47] (l.take e) 0 = c2 at hcc HQ2
  have q6 : decide (c1 < c2) = false := by simp; omega
  have HP2 := Lib.hid (fun w => starts_any (l.take e) [47, 47] (by omega) (by decide) (by decide) 0 (by omega) w)
  have hp2' : List.isPrefixOf [47, 47] ((l.take e).drop 0) = false := hp2
  rw [hp2'] at HP2
  clear hp2 hp2'
  have HV2 := Lib.hid (fun w => escapes_any l hl 0 e (by omega) (by omega) w)
  rw [hv2] at HV2
  clear hv2
  go_enter Try.func10, Try.ntmps10
  go_wp2_with fail
  refine (HT.out _).mono ?_
  rintro e w' ⟨rfl, rfl⟩
  go_wp2_with fail
  refine (HE1.out _).mono ?_
  rintro e w' ⟨rfl, rfl⟩
  go_wp2_with fail
  go_loop [5] (fun i => ∃ k : Nat, k ≤ T ∧ i = .int .i64 k) (fun i => T - (intOf i).toNat)
  case atStart => exact ⟨0, by omega, rfl⟩
  case round =>
    obtain ⟨k, hk, rfl⟩ := hrel
    by_cases hlt : k < T
    · have hkl : k < l.length := by omega
      have hc1 := HC.out k hlt
      have hb := l[k].toNat_lt
      have q1 : decide ((l[k].toNat : Int) < 32) = false := by simp; omega
      have q2 : ((l[k].toNat : Int) == 127) = false := by rw [beq_eq_false_iff_ne]; omega
      clear hc1
      go_wp2_with fail
      go_round
      case rel => exact ⟨k + 1, by omega, by go_num⟩
      case measure => simp [intOf]; omega
    · obtain rfl : k = T := by omega
      clear HC
      go_wp2_with fail
      refine (HS.out _).mono ?_
      rintro e w' ⟨rfl, rfl⟩
      go_wp2_with fail
      refine (HF.out _).mono ?_
      rintro e w' ⟨rfl, rfl⟩
      go_wp2_with fail
      refine (HP.out _).mono ?_
      rintro e w' ⟨rfl, rfl⟩
      go_wp2_with fail
      go_quiet (first | (go_at_call_of 26 (Value.string ⟨([58] : Pc.B).toArray⟩); exact Calls.quiet_of_same ((HQ1.out _).mono fun _ _ h => ⟨h.1, h.2.symm⟩)) | (go_at_call 26; exact Calls.quiet_of_same ((HQ2.out _).mono fun _ _ h => ⟨h.1, h.2.symm⟩)))
      go_wp2_with fail
      clear HQ1 HQ2
      refine (HP2.out _).mono ?_
      rintro e w' ⟨rfl, rfl⟩
      go_wp2_with fail
      refine (HV2.out _).mono ?_
      rintro e w' ⟨rfl, rfl⟩
      go_wp2_with fail
      exact bodyPost_ret (v := res none) (by first | (simp [results, Try.results10, go_sem, res]; done) | (simp [results, Try.results10, go_sem, res]; rfl)) rfl ⟨rfl, by (repeat (first | exact Below.refl _ _ | assumption | refine Below.drew ?_ | refine bl_drewN ?_ | refine Below.alloc ?_ (by first | exact Nat.le_refl _ | (simp; done) | (simp; omega) | omega) _ | refine Below.setCell ?_ (by first | exact Nat.le_refl _ | (simp; done) | (simp; omega) | omega) _))⟩
set_option maxRecDepth 100000 in
set_option maxHeartbeats 3200000 in
theorem rp_6y (l : Pc.B) (T : Nat) (h : Mk l T) (e : Nat) (hs : conv (Gu.sch 0 (l.take T)) = 0) (he : fst [63] (l.take T) 0 = e) (heT : e ≤ T) (hp : List.isPrefixOf [47] (lef l e 0) = false) (hcc : ¬ fst [58] (l.take e) 0 < fst [47] (l.take e) 0) (hp2 : List.isPrefixOf [47, 47] (lef l e 0) = false) (hv2 : Pc.valid (lef l e 0) = true) (w : World) : Calls Try.prog 10 #[.string ⟨l.toArray⟩] w fun r w' => r = .returned (res (some ([], lef l e 0))) ∧ Below w.heap.size w w' := by
  have hl := h.hl
  have hTl := h.hTl
  have HT := Lib.hid (fun w => first_any l [35] hl (by decide) 0 (by omega) w)
  rw [h.hT] at HT
  have HE1 := Lib.hid (fun w => escapes_any l hl T l.length hTl (Nat.le_refl _) w)
  rw [h.hv] at HE1
  have HC : Hid (∀ k (h : k < T), ¬ (l[k]'(by omega)).toNat < 32 ∧ (l[k]'(by omega)).toNat ≠ 127) := Lib.hid (fun k g => h.hc k g (by omega))
  clear h
  have HS := Lib.hid (fun w => rscheme_any l hl T hTl w)
  rw [hs] at HS
  have hlT : (l.take T).length = T := by simp; omega
  have hle : (l.take e).length = e := by simp; omega
  have HF := Lib.hid (fun w => first_any (l.take T) [63] (by omega) (by decide) 0 (by omega) w)
  rw [he] at HF
  have HP := Lib.hid (fun w => starts_any (l.take e) [47] (by omega) (by decide) (by decide) 0 (by omega) w)
  have hp' : List.isPrefixOf [47] ((l.take e).drop 0) = false := hp
  rw [hp'] at HP
  have f1 : (0 : Int) ≤ (T : Int) := by omega
  have f2 : (T : Int) ≤ (l.length : Int) := by omega
  have f3 : (0 : Int) ≤ (e : Int) := by omega
  have f4 : (e : Int) ≤ (l.length : Int) := by omega
  have hel : e ≤ l.length := by omega
  clear hs he hp hp'
  have HQ1 := Lib.hid (fun w => first_any (l.take e) [58] (by omega) (by decide) 0 (by omega) w)
  have HQ2 := Lib.hid (fun w => first_any (l.take e) [47] (by omega) (by decide) 0 (by omega) w)
  generalize fst [58] (l.take e) 0 = c1 at hcc HQ1
  generalize fst [47] (l.take e) 0 = c2 at hcc HQ2
  have q6 : decide (c1 < c2) = false := by simp; omega
  have HP2 := Lib.hid (fun w => starts_any (l.take e) [47, 47] (by omega) (by decide) (by decide) 0 (by omega) w)
  have hp2' : List.isPrefixOf [47, 47] ((l.take e).drop 0) = false := hp2
  rw [hp2'] at HP2
  clear hp2 hp2'
  have HV2 := Lib.hid (fun w => escapes_any l hl 0 e (by omega) (by omega) w)
  rw [hv2] at HV2
  clear hv2
  have s1 : (0 : Int) ≤ (e : Int) := by omega
  go_enter Try.func10, Try.ntmps10
  go_wp2_with fail
  refine (HT.out _).mono ?_
  rintro e w' ⟨rfl, rfl⟩
  go_wp2_with fail
  refine (HE1.out _).mono ?_
  rintro e w' ⟨rfl, rfl⟩
  go_wp2_with fail
  go_loop [5] (fun i => ∃ k : Nat, k ≤ T ∧ i = .int .i64 k) (fun i => T - (intOf i).toNat)
  case atStart => exact ⟨0, by omega, rfl⟩
  case round =>
    obtain ⟨k, hk, rfl⟩ := hrel
    by_cases hlt : k < T
    · have hkl : k < l.length := by omega
      have hc1 := HC.out k hlt
      have hb := l[k].toNat_lt
      have q1 : decide ((l[k].toNat : Int) < 32) = false := by simp; omega
      have q2 : ((l[k].toNat : Int) == 127) = false := by rw [beq_eq_false_iff_ne]; omega
      clear hc1
      go_wp2_with fail
      go_round
      case rel => exact ⟨k + 1, by omega, by go_num⟩
      case measure => simp [intOf]; omega
    · obtain rfl : k = T := by omega
      clear HC
      go_wp2_with fail
      refine (HS.out _).mono ?_
      rintro e w' ⟨rfl, rfl⟩
      go_wp2_with fail
      refine (HF.out _).mono ?_
      rintro e w' ⟨rfl, rfl⟩
      go_wp2_with fail
      refine (HP.out _).mono ?_
      rintro e w' ⟨rfl, rfl⟩
      go_wp2_with fail
      go_quiet (first | (go_at_call_of 26 (Value.string ⟨([58] : Pc.B).toArray⟩); exact Calls.quiet_of_same ((HQ1.out _).mono fun _ _ h => ⟨h.1, h.2.symm⟩)) | (go_at_call 26; exact Calls.quiet_of_same ((HQ2.out _).mono fun _ _ h => ⟨h.1, h.2.symm⟩)))
      go_wp2_with fail
      clear HQ1 HQ2
      refine (HP2.out _).mono ?_
      rintro e w' ⟨rfl, rfl⟩
      go_wp2_with fail
      refine (HV2.out _).mono ?_
      rintro e w' ⟨rfl, rfl⟩
      go_wp2_with fail
      exact bodyPost_ret (v := res (some ([], lef l e 0))) (by first | (simp [results, Try.results10, go_sem, res, lef, List.drop_take]; done) | (simp [results, Try.results10, go_sem, res, lef, List.drop_take]; rfl)) rfl ⟨rfl, by (repeat (first | exact Below.refl _ _ | assumption | refine Below.drew ?_ | refine bl_drewN ?_ | refine Below.alloc ?_ (by first | exact Nat.le_refl _ | (simp; done) | (simp; omega) | omega) _ | refine Below.setCell ?_ (by first | exact Nat.le_refl _ | (simp; done) | (simp; omega) | omega) _))⟩
set_option maxRecDepth 100000 in
set_option maxHeartbeats 3200000 in
theorem rp_7n (l : Pc.B) (T : Nat) (h : Mk l T) (a e : Nat) (hs : conv (Gu.sch 0 (l.take T)) = (a : Int)) (haT : a ≤ T) (he : fst [63] (l.take T) a = e) (hae : a ≤ e) (heT : e ≤ T) (hp : List.isPrefixOf [47] (lef l e a) = true) (hp2 : List.isPrefixOf [47, 47] (lef l e a) = false) (hv2 : Pc.valid (lef l e a) = false) (w : World) : Calls Try.prog 10 #[.string ⟨l.toArray⟩] w fun r w' => r = .returned (res none) ∧ Below w.heap.size w w' := by
  have hl := h.hl
  have hTl := h.hTl
  have HT := Lib.hid (fun w => first_any l [35] hl (by decide) 0 (by omega) w)
  rw [h.hT] at HT
  have HE1 := Lib.hid (fun w => escapes_any l hl T l.length hTl (Nat.le_refl _) w)
  rw [h.hv] at HE1
  have HC : Hid (∀ k (h : k < T), ¬ (l[k]'(by omega)).toNat < 32 ∧ (l[k]'(by omega)).toNat ≠ 127) := Lib.hid (fun k g => h.hc k g (by omega))
  clear h
  have HS := Lib.hid (fun w => rscheme_any l hl T hTl w)
  rw [hs] at HS
  have hlT : (l.take T).length = T := by simp; omega
  have hle : (l.take e).length = e := by simp; omega
  have HF := Lib.hid (fun w => first_any (l.take T) [63] (by omega) (by decide) a (by omega) w)
  rw [he] at HF
  have HP := Lib.hid (fun w => starts_any (l.take e) [47] (by omega) (by decide) (by decide) a (by omega) w)
  have hp' : List.isPrefixOf [47] ((l.take e).drop a) = true := hp
  rw [hp'] at HP
  have f1 : (0 : Int) ≤ (T : Int) := by omega
  have f2 : (T : Int) ≤ (l.length : Int) := by omega
  have f3 : (0 : Int) ≤ (e : Int) := by omega
  have f4 : (e : Int) ≤ (l.length : Int) := by omega
  have hel : e ≤ l.length := by omega
  clear hs he hp hp'
  have HP2 := Lib.hid (fun w => starts_any (l.take e) [47, 47] (by omega) (by decide) (by decide) a (by omega) w)
  have hp2' : List.isPrefixOf [47, 47] ((l.take e).drop a) = false := hp2
  rw [hp2'] at HP2
  clear hp2 hp2'
  have HV2 := Lib.hid (fun w => escapes_any l hl a e (by omega) (by omega) w)
  rw [hv2] at HV2
  clear hv2
  have a1 : (0 : Int) ≤ (a : Int) := by omega
  have s1 : (a : Int) ≤ (e : Int) := by omega
  go_enter Try.func10, Try.ntmps10
  go_wp2_with fail
  refine (HT.out _).mono ?_
  rintro e w' ⟨rfl, rfl⟩
  go_wp2_with fail
  refine (HE1.out _).mono ?_
  rintro e w' ⟨rfl, rfl⟩
  go_wp2_with fail
  go_loop [5] (fun i => ∃ k : Nat, k ≤ T ∧ i = .int .i64 k) (fun i => T - (intOf i).toNat)
  case atStart => exact ⟨0, by omega, rfl⟩
  case round =>
    obtain ⟨k, hk, rfl⟩ := hrel
    by_cases hlt : k < T
    · have hkl : k < l.length := by omega
      have hc1 := HC.out k hlt
      have hb := l[k].toNat_lt
      have q1 : decide ((l[k].toNat : Int) < 32) = false := by simp; omega
      have q2 : ((l[k].toNat : Int) == 127) = false := by rw [beq_eq_false_iff_ne]; omega
      clear hc1
      go_wp2_with fail
      go_round
      case rel => exact ⟨k + 1, by omega, by go_num⟩
      case measure => simp [intOf]; omega
    · obtain rfl : k = T := by omega
      clear HC
      go_wp2_with fail
      refine (HS.out _).mono ?_
      rintro e w' ⟨rfl, rfl⟩
      go_wp2_with fail
      refine (HF.out _).mono ?_
      rintro e w' ⟨rfl, rfl⟩
      go_wp2_with fail
      refine (HP.out _).mono ?_
      rintro e w' ⟨rfl, rfl⟩
      go_wp2_with fail
      refine (HP2.out _).mono ?_
      rintro e w' ⟨rfl, rfl⟩
      go_wp2_with fail
      refine (HV2.out _).mono ?_
      rintro e w' ⟨rfl, rfl⟩
      go_wp2_with fail
      exact bodyPost_ret (v := res none) (by first | (simp [results, Try.results10, go_sem, res]; done) | (simp [results, Try.results10, go_sem, res]; rfl)) rfl ⟨rfl, by (repeat (first | exact Below.refl _ _ | assumption | refine Below.drew ?_ | refine bl_drewN ?_ | refine Below.alloc ?_ (by first | exact Nat.le_refl _ | (simp; done) | (simp; omega) | omega) _ | refine Below.setCell ?_ (by first | exact Nat.le_refl _ | (simp; done) | (simp; omega) | omega) _))⟩
set_option maxRecDepth 100000 in
set_option maxHeartbeats 3200000 in
theorem rp_7y (l : Pc.B) (T : Nat) (h : Mk l T) (a e : Nat) (hs : conv (Gu.sch 0 (l.take T)) = (a : Int)) (haT : a ≤ T) (he : fst [63] (l.take T) a = e) (hae : a ≤ e) (heT : e ≤ T) (hp : List.isPrefixOf [47] (lef l e a) = true) (hp2 : List.isPrefixOf [47, 47] (lef l e a) = false) (hv2 : Pc.valid (lef l e a) = true) (w : World) : Calls Try.prog 10 #[.string ⟨l.toArray⟩] w fun r w' => r = .returned (res (some ([], lef l e a))) ∧ Below w.heap.size w w' := by
  have hl := h.hl
  have hTl := h.hTl
  have HT := Lib.hid (fun w => first_any l [35] hl (by decide) 0 (by omega) w)
  rw [h.hT] at HT
  have HE1 := Lib.hid (fun w => escapes_any l hl T l.length hTl (Nat.le_refl _) w)
  rw [h.hv] at HE1
  have HC : Hid (∀ k (h : k < T), ¬ (l[k]'(by omega)).toNat < 32 ∧ (l[k]'(by omega)).toNat ≠ 127) := Lib.hid (fun k g => h.hc k g (by omega))
  clear h
  have HS := Lib.hid (fun w => rscheme_any l hl T hTl w)
  rw [hs] at HS
  have hlT : (l.take T).length = T := by simp; omega
  have hle : (l.take e).length = e := by simp; omega
  have HF := Lib.hid (fun w => first_any (l.take T) [63] (by omega) (by decide) a (by omega) w)
  rw [he] at HF
  have HP := Lib.hid (fun w => starts_any (l.take e) [47] (by omega) (by decide) (by decide) a (by omega) w)
  have hp' : List.isPrefixOf [47] ((l.take e).drop a) = true := hp
  rw [hp'] at HP
  have f1 : (0 : Int) ≤ (T : Int) := by omega
  have f2 : (T : Int) ≤ (l.length : Int) := by omega
  have f3 : (0 : Int) ≤ (e : Int) := by omega
  have f4 : (e : Int) ≤ (l.length : Int) := by omega
  have hel : e ≤ l.length := by omega
  clear hs he hp hp'
  have HP2 := Lib.hid (fun w => starts_any (l.take e) [47, 47] (by omega) (by decide) (by decide) a (by omega) w)
  have hp2' : List.isPrefixOf [47, 47] ((l.take e).drop a) = false := hp2
  rw [hp2'] at HP2
  clear hp2 hp2'
  have HV2 := Lib.hid (fun w => escapes_any l hl a e (by omega) (by omega) w)
  rw [hv2] at HV2
  clear hv2
  have a1 : (0 : Int) ≤ (a : Int) := by omega
  have s1 : (a : Int) ≤ (e : Int) := by omega
  go_enter Try.func10, Try.ntmps10
  go_wp2_with fail
  refine (HT.out _).mono ?_
  rintro e w' ⟨rfl, rfl⟩
  go_wp2_with fail
  refine (HE1.out _).mono ?_
  rintro e w' ⟨rfl, rfl⟩
  go_wp2_with fail
  go_loop [5] (fun i => ∃ k : Nat, k ≤ T ∧ i = .int .i64 k) (fun i => T - (intOf i).toNat)
  case atStart => exact ⟨0, by omega, rfl⟩
  case round =>
    obtain ⟨k, hk, rfl⟩ := hrel
    by_cases hlt : k < T
    · have hkl : k < l.length := by omega
      have hc1 := HC.out k hlt
      have hb := l[k].toNat_lt
      have q1 : decide ((l[k].toNat : Int) < 32) = false := by simp; omega
      have q2 : ((l[k].toNat : Int) == 127) = false := by rw [beq_eq_false_iff_ne]; omega
      clear hc1
      go_wp2_with fail
      go_round
      case rel => exact ⟨k + 1, by omega, by go_num⟩
      case measure => simp [intOf]; omega
    · obtain rfl : k = T := by omega
      clear HC
      go_wp2_with fail
      refine (HS.out _).mono ?_
      rintro e w' ⟨rfl, rfl⟩
      go_wp2_with fail
      refine (HF.out _).mono ?_
      rintro e w' ⟨rfl, rfl⟩
      go_wp2_with fail
      refine (HP.out _).mono ?_
      rintro e w' ⟨rfl, rfl⟩
      go_wp2_with fail
      refine (HP2.out _).mono ?_
      rintro e w' ⟨rfl, rfl⟩
      go_wp2_with fail
      refine (HV2.out _).mono ?_
      rintro e w' ⟨rfl, rfl⟩
      go_wp2_with fail
      exact bodyPost_ret (v := res (some ([], lef l e a))) (by first | (simp [results, Try.results10, go_sem, res, lef, List.drop_take]; done) | (simp [results, Try.results10, go_sem, res, lef, List.drop_take]; rfl)) rfl ⟨rfl, by (repeat (first | exact Below.refl _ _ | assumption | refine Below.drew ?_ | refine bl_drewN ?_ | refine Below.alloc ?_ (by first | exact Nat.le_refl _ | (simp; done) | (simp; omega) | omega) _ | refine Below.setCell ?_ (by first | exact Nat.le_refl _ | (simp; done) | (simp; omega) | omega) _))⟩
set_option maxRecDepth 100000 in
set_option maxHeartbeats 3200000 in
theorem rp_8n (l : Pc.B) (T : Nat) (h : Mk l T) (e : Nat) (hs : conv (Gu.sch 0 (l.take T)) = 0) (he : fst [63] (l.take T) 0 = e) (heT : e ≤ T) (hp : List.isPrefixOf [47] (lef l e 0) = true) (hp2 : List.isPrefixOf [47, 47] (lef l e 0) = true) (hp3 : List.isPrefixOf [47, 47, 47] (lef l e 0) = true) (hv2 : Pc.valid (lef l e 0) = false) (w : World) : Calls Try.prog 10 #[.string ⟨l.toArray⟩] w fun r w' => r = .returned (res none) ∧ Below w.heap.size w w' := by
  have hl := h.hl
  have hTl := h.hTl
  have HT := Lib.hid (fun w => first_any l [35] hl (by decide) 0 (by omega) w)
  rw [h.hT] at HT
  have HE1 := Lib.hid (fun w => escapes_any l hl T l.length hTl (Nat.le_refl _) w)
  rw [h.hv] at HE1
  have HC : Hid (∀ k (h : k < T), ¬ (l[k]'(by omega)).toNat < 32 ∧ (l[k]'(by omega)).toNat ≠ 127) := Lib.hid (fun k g => h.hc k g (by omega))
  clear h
  have HS := Lib.hid (fun w => rscheme_any l hl T hTl w)
  rw [hs] at HS
  have hlT : (l.take T).length = T := by simp; omega
  have hle : (l.take e).length = e := by simp; omega
  have HF := Lib.hid (fun w => first_any (l.take T) [63] (by omega) (by decide) 0 (by omega) w)
  rw [he] at HF
  have HP := Lib.hid (fun w => starts_any (l.take e) [47] (by omega) (by decide) (by decide) 0 (by omega) w)
  have hp' : List.isPrefixOf [47] ((l.take e).drop 0) = true := hp
  rw [hp'] at HP
  have f1 : (0 : Int) ≤ (T : Int) := by omega
  have f2 : (T : Int) ≤ (l.length : Int) := by omega
  have f3 : (0 : Int) ≤ (e : Int) := by omega
  have f4 : (e : Int) ≤ (l.length : Int) := by omega
  have hel : e ≤ l.length := by omega
  clear hs he hp hp'
  have HP2 := Lib.hid (fun w => starts_any (l.take e) [47, 47] (by omega) (by decide) (by decide) 0 (by omega) w)
  have hp2' : List.isPrefixOf [47, 47] ((l.take e).drop 0) = true := hp2
  rw [hp2'] at HP2
  clear hp2 hp2'
  have HP3 := Lib.hid (fun w => starts_any (l.take e) [47, 47, 47] (by omega) (by decide) (by decide) 0 (by omega) w)
  have hp3' : List.isPrefixOf [47, 47, 47] ((l.take e).drop 0) = true := hp3
  rw [hp3'] at HP3
  clear hp3 hp3'
  have HV2 := Lib.hid (fun w => escapes_any l hl 0 e (by omega) (by omega) w)
  rw [hv2] at HV2
  clear hv2
  have s1 : (0 : Int) ≤ (e : Int) := by omega
  go_enter Try.func10, Try.ntmps10
  go_wp2_with fail
  refine (HT.out _).mono ?_
  rintro e w' ⟨rfl, rfl⟩
  go_wp2_with fail
  refine (HE1.out _).mono ?_
  rintro e w' ⟨rfl, rfl⟩
  go_wp2_with fail
  go_loop [5] (fun i => ∃ k : Nat, k ≤ T ∧ i = .int .i64 k) (fun i => T - (intOf i).toNat)
  case atStart => exact ⟨0, by omega, rfl⟩
  case round =>
    obtain ⟨k, hk, rfl⟩ := hrel
    by_cases hlt : k < T
    · have hkl : k < l.length := by omega
      have hc1 := HC.out k hlt
      have hb := l[k].toNat_lt
      have q1 : decide ((l[k].toNat : Int) < 32) = false := by simp; omega
      have q2 : ((l[k].toNat : Int) == 127) = false := by rw [beq_eq_false_iff_ne]; omega
      clear hc1
      go_wp2_with fail
      go_round
      case rel => exact ⟨k + 1, by omega, by go_num⟩
      case measure => simp [intOf]; omega
    · obtain rfl : k = T := by omega
      clear HC
      go_wp2_with fail
      refine (HS.out _).mono ?_
      rintro e w' ⟨rfl, rfl⟩
      go_wp2_with fail
      refine (HF.out _).mono ?_
      rintro e w' ⟨rfl, rfl⟩
      go_wp2_with fail
      refine (HP.out _).mono ?_
      rintro e w' ⟨rfl, rfl⟩
      go_wp2_with fail
      refine (HP2.out _).mono ?_
      rintro e w' ⟨rfl, rfl⟩
      go_wp2_with fail
      refine (HP3.out _).mono ?_
      rintro e w' ⟨rfl, rfl⟩
      go_wp2_with fail
      refine (HV2.out _).mono ?_
      rintro e w' ⟨rfl, rfl⟩
      go_wp2_with fail
      exact bodyPost_ret (v := res none) (by first | (simp [results, Try.results10, go_sem, res]; done) | (simp [results, Try.results10, go_sem, res]; rfl)) rfl ⟨rfl, by (repeat (first | exact Below.refl _ _ | assumption | refine Below.drew ?_ | refine bl_drewN ?_ | refine Below.alloc ?_ (by first | exact Nat.le_refl _ | (simp; done) | (simp; omega) | omega) _ | refine Below.setCell ?_ (by first | exact Nat.le_refl _ | (simp; done) | (simp; omega) | omega) _))⟩
set_option maxRecDepth 100000 in
set_option maxHeartbeats 3200000 in
theorem rp_8y (l : Pc.B) (T : Nat) (h : Mk l T) (e : Nat) (hs : conv (Gu.sch 0 (l.take T)) = 0) (he : fst [63] (l.take T) 0 = e) (heT : e ≤ T) (hp : List.isPrefixOf [47] (lef l e 0) = true) (hp2 : List.isPrefixOf [47, 47] (lef l e 0) = true) (hp3 : List.isPrefixOf [47, 47, 47] (lef l e 0) = true) (hv2 : Pc.valid (lef l e 0) = true) (w : World) : Calls Try.prog 10 #[.string ⟨l.toArray⟩] w fun r w' => r = .returned (res (some ([], lef l e 0))) ∧ Below w.heap.size w w' := by
  have hl := h.hl
  have hTl := h.hTl
  have HT := Lib.hid (fun w => first_any l [35] hl (by decide) 0 (by omega) w)
  rw [h.hT] at HT
  have HE1 := Lib.hid (fun w => escapes_any l hl T l.length hTl (Nat.le_refl _) w)
  rw [h.hv] at HE1
  have HC : Hid (∀ k (h : k < T), ¬ (l[k]'(by omega)).toNat < 32 ∧ (l[k]'(by omega)).toNat ≠ 127) := Lib.hid (fun k g => h.hc k g (by omega))
  clear h
  have HS := Lib.hid (fun w => rscheme_any l hl T hTl w)
  rw [hs] at HS
  have hlT : (l.take T).length = T := by simp; omega
  have hle : (l.take e).length = e := by simp; omega
  have HF := Lib.hid (fun w => first_any (l.take T) [63] (by omega) (by decide) 0 (by omega) w)
  rw [he] at HF
  have HP := Lib.hid (fun w => starts_any (l.take e) [47] (by omega) (by decide) (by decide) 0 (by omega) w)
  have hp' : List.isPrefixOf [47] ((l.take e).drop 0) = true := hp
  rw [hp'] at HP
  have f1 : (0 : Int) ≤ (T : Int) := by omega
  have f2 : (T : Int) ≤ (l.length : Int) := by omega
  have f3 : (0 : Int) ≤ (e : Int) := by omega
  have f4 : (e : Int) ≤ (l.length : Int) := by omega
  have hel : e ≤ l.length := by omega
  clear hs he hp hp'
  have HP2 := Lib.hid (fun w => starts_any (l.take e) [47, 47] (by omega) (by decide) (by decide) 0 (by omega) w)
  have hp2' : List.isPrefixOf [47, 47] ((l.take e).drop 0) = true := hp2
  rw [hp2'] at HP2
  clear hp2 hp2'
  have HP3 := Lib.hid (fun w => starts_any (l.take e) [47, 47, 47] (by omega) (by decide) (by decide) 0 (by omega) w)
  have hp3' : List.isPrefixOf [47, 47, 47] ((l.take e).drop 0) = true := hp3
  rw [hp3'] at HP3
  clear hp3 hp3'
  have HV2 := Lib.hid (fun w => escapes_any l hl 0 e (by omega) (by omega) w)
  rw [hv2] at HV2
  clear hv2
  have s1 : (0 : Int) ≤ (e : Int) := by omega
  go_enter Try.func10, Try.ntmps10
  go_wp2_with fail
  refine (HT.out _).mono ?_
  rintro e w' ⟨rfl, rfl⟩
  go_wp2_with fail
  refine (HE1.out _).mono ?_
  rintro e w' ⟨rfl, rfl⟩
  go_wp2_with fail
  go_loop [5] (fun i => ∃ k : Nat, k ≤ T ∧ i = .int .i64 k) (fun i => T - (intOf i).toNat)
  case atStart => exact ⟨0, by omega, rfl⟩
  case round =>
    obtain ⟨k, hk, rfl⟩ := hrel
    by_cases hlt : k < T
    · have hkl : k < l.length := by omega
      have hc1 := HC.out k hlt
      have hb := l[k].toNat_lt
      have q1 : decide ((l[k].toNat : Int) < 32) = false := by simp; omega
      have q2 : ((l[k].toNat : Int) == 127) = false := by rw [beq_eq_false_iff_ne]; omega
      clear hc1
      go_wp2_with fail
      go_round
      case rel => exact ⟨k + 1, by omega, by go_num⟩
      case measure => simp [intOf]; omega
    · obtain rfl : k = T := by omega
      clear HC
      go_wp2_with fail
      refine (HS.out _).mono ?_
      rintro e w' ⟨rfl, rfl⟩
      go_wp2_with fail
      refine (HF.out _).mono ?_
      rintro e w' ⟨rfl, rfl⟩
      go_wp2_with fail
      refine (HP.out _).mono ?_
      rintro e w' ⟨rfl, rfl⟩
      go_wp2_with fail
      refine (HP2.out _).mono ?_
      rintro e w' ⟨rfl, rfl⟩
      go_wp2_with fail
      refine (HP3.out _).mono ?_
      rintro e w' ⟨rfl, rfl⟩
      go_wp2_with fail
      refine (HV2.out _).mono ?_
      rintro e w' ⟨rfl, rfl⟩
      go_wp2_with fail
      exact bodyPost_ret (v := res (some ([], lef l e 0))) (by first | (simp [results, Try.results10, go_sem, res, lef, List.drop_take]; done) | (simp [results, Try.results10, go_sem, res, lef, List.drop_take]; rfl)) rfl ⟨rfl, by (repeat (first | exact Below.refl _ _ | assumption | refine Below.drew ?_ | refine bl_drewN ?_ | refine Below.alloc ?_ (by first | exact Nat.le_refl _ | (simp; done) | (simp; omega) | omega) _ | refine Below.setCell ?_ (by first | exact Nat.le_refl _ | (simp; done) | (simp; omega) | omega) _))⟩
end Go.Proofs.Ytpccfagbmbbpkaa
