/-
  The document's own answer for layer 20: Parse, way by way.
-/
import Derived.Test.YtpccfagbmbbpkaaRefD
import Derived.Test.YtpccfagbmbbpkaaParse
namespace Go.Proofs.Ytpccfagbmbbpkaa
open Go.RowKit Go.Proofs.YtpccfagbmbbpkaaW.PrintWords

theorem bl_drewN {B : Nat} {a w : World} (h : Below B a w) {n : Nat} : Below B a (w.drewN n) := h.trans ⟨rfl, rfl, rfl, Nat.le_refl _, fun _ _ => rfl⟩
theorem fst_one (c : UInt8) (l : Pc.B) (f : Nat) : fst [c] l f = f + (Gu.bef c (l.drop f)).length := by
  unfold fst Gu.bef
  congr 3
  funext d
  unfold Gu.mem
  simp only [List.any_cons, List.any_nil, Bool.or_false]
  rw [Bool.eq_iff_iff]
  simp
  exact ⟨fun h e => h (by rw [e]), fun h e => h (UInt8.toNat_inj.mp e.symm)⟩
/-- The facts with which the way goes on from the marks to a scheme's end. -/
structure Mk (l : Pc.B) (T : Nat) : Prop where
  hl : l.length ≤ 1000000
  hT : fst [35] l 0 = T
  hTl : T ≤ l.length
  hv : Pc.valid (lef l l.length T) = true
  hc : ∀ k (_ : k < T) (g : k < l.length), ¬ l[k].toNat < 32 ∧ l[k].toNat ≠ 127
set_option maxRecDepth 100000 in
set_option maxHeartbeats 3200000 in
theorem rp_1 (l : Pc.B) (hl : l.length ≤ 1000000) (T : Nat) (hT : fst [35] l 0 = T) (hTl : T ≤ l.length) (hv : Pc.valid (lef l l.length T) = false) (w : World) : Calls Try.prog 10 #[.string ⟨l.toArray⟩] w fun e w' => e = .returned (res none) ∧ Below w.heap.size w w' := by
  have HT := Lib.hid (fun w => first_any l [35] hl (by decide) 0 (by omega) w)
  rw [hT] at HT
  have HE1 := Lib.hid (fun w => escapes_any l hl T l.length hTl (Nat.le_refl _) w)
  rw [hv] at HE1
  clear hT hv
  go_enter Try.func10, Try.ntmps10
  go_wp2_with fail
  refine (HT.out _).mono ?_
  rintro e w' ⟨rfl, rfl⟩
  go_wp2_with fail
  refine (HE1.out _).mono ?_
  rintro e w' ⟨rfl, rfl⟩
  go_wp2_with fail
  exact bodyPost_ret (v := res none) (by first | (simp [results, Try.results10, go_sem, res]; done) | (simp [results, Try.results10, go_sem, res]; rfl)) rfl ⟨rfl, by (repeat (first | exact Below.refl _ _ | assumption | refine Below.drew ?_ | refine Below.alloc ?_ (by first | exact Nat.le_refl _ | (simp; done) | (simp; omega) | omega) _ | refine Below.setCell ?_ (by first | exact Nat.le_refl _ | (simp; done) | (simp; omega) | omega) _))⟩
set_option maxRecDepth 100000 in
set_option maxHeartbeats 3200000 in
theorem rp_2 (l : Pc.B) (hl : l.length ≤ 1000000) (T : Nat) (hT : fst [35] l 0 = T) (hTl : T ≤ l.length) (hv : Pc.valid (lef l l.length T) = true) (hc : ((lef l T 0).all fun c => !Gu.ctl c.toNat) = false) (w : World) : Calls Try.prog 10 #[.string ⟨l.toArray⟩] w fun e w' => e = .returned (res none) ∧ Below w.heap.size w w' := by
  have HT := Lib.hid (fun w => first_any l [35] hl (by decide) 0 (by omega) w)
  rw [hT] at HT
  have HE1 := Lib.hid (fun w => escapes_any l hl T l.length hTl (Nat.le_refl _) w)
  rw [hv] at HE1
  have HC := Lib.hid hc
  clear hT hv hc
  go_enter Try.func10, Try.ntmps10
  go_wp2_with fail
  refine (HT.out _).mono ?_
  rintro e w' ⟨rfl, rfl⟩
  go_wp2_with fail
  refine (HE1.out _).mono ?_
  rintro e w' ⟨rfl, rfl⟩
  go_wp2_with fail
  go_loop [5] (fun i => ∃ k : Nat, k ≤ T ∧ i = .int .i64 k ∧ Hid (((lef l T k).all fun c => !Gu.ctl c.toNat) = false)) (fun i => T - (intOf i).toNat)
  case atStart => exact ⟨0, by omega, rfl, HC⟩
  case round =>
    obtain ⟨k, hk, rfl, HV⟩ := hrel
    by_cases hlt : k < T
    · have hkl : k < l.length := by omega
      have hd := Lib.hid (lef_cons l T k hlt hTl)
      have hb := l[k].toNat_lt
      by_cases h32 : l[k].toNat < 32
      · have q1 : decide ((l[k].toNat : Int) < 32) = true := by simp; omega
        go_wp2_with fail
        exact bodyPost_ret (v := res none) (by first | (simp [results, Try.results10, go_sem, res]; done) | (simp [results, Try.results10, go_sem, res]; rfl)) rfl ⟨rfl, by (repeat (first | exact Below.refl _ _ | assumption | refine Below.drew ?_ | refine Below.alloc ?_ (by first | exact Nat.le_refl _ | (simp; done) | (simp; omega) | omega) _ | refine Below.setCell ?_ (by first | exact Nat.le_refl _ | (simp; done) | (simp; omega) | omega) _))⟩
      · have q1 : decide ((l[k].toNat : Int) < 32) = false := by simp; omega
        by_cases h127 : l[k].toNat = 127
        · have q2 : ((l[k].toNat : Int) == 127) = true := by rw [beq_iff_eq]; omega
          clear h127
          go_wp2_with fail
          exact bodyPost_ret (v := res none) (by first | (simp [results, Try.results10, go_sem, res]; done) | (simp [results, Try.results10, go_sem, res]; rfl)) rfl ⟨rfl, by (repeat (first | exact Below.refl _ _ | assumption | refine Below.drew ?_ | refine Below.alloc ?_ (by first | exact Nat.le_refl _ | (simp; done) | (simp; omega) | omega) _ | refine Below.setCell ?_ (by first | exact Nat.le_refl _ | (simp; done) | (simp; omega) | omega) _))⟩
        · have q2 : ((l[k].toNat : Int) == 127) = false := by rw [beq_eq_false_iff_ne]; omega
          have HN := Lib.hid (show Gu.ctl l[k].toNat = false by unfold Gu.ctl; rw [decide_eq_false h32, decide_eq_false h127]; rfl)
          go_wp2_with fail
          go_round
          case rel =>
            refine ⟨k + 1, by omega, by go_num, Lib.hid ?_⟩
            have := HV.out
            rw [hd.out, List.all_cons, HN.out] at this
            simpa using this
          case measure => simp [intOf]; omega
    · exfalso
      have := HV.out
      rw [lef_nil l T k (by omega)] at this
      cases this
set_option maxRecDepth 100000 in
set_option maxHeartbeats 3200000 in
theorem rp_3 (l : Pc.B) (T : Nat) (h : Mk l T) (hs : conv (Gu.sch 0 (l.take T)) = -1) (w : World) : Calls Try.prog 10 #[.string ⟨l.toArray⟩] w fun e w' => e = .returned (res none) ∧ Below w.heap.size w w' := by
  have hl := h.hl
  have hTl := h.hTl
  have HT := Lib.hid (fun w => first_any l [35] hl (by decide) 0 (by omega) w)
  rw [h.hT] at HT
  have HE1 := Lib.hid (fun w => escapes_any l hl T l.length hTl (Nat.le_refl _) w)
  rw [h.hv] at HE1
  have HC : Hid (∀ k (h : k < T), ¬ (l[k]'(by omega)).toNat < 32 ∧ (l[k]'(by omega)).toNat ≠ 127) := Lib.hid (fun k g => h.hc k g (by omega))
  clear h
  have HS := Lib.hid (fun w => rscheme_any l hl T hTl w)
  rw [hs] at HS
  clear hs
  go_enter Try.func10, Try.ntmps10
  go_wp2_with fail
  refine (HT.out _).mono ?_
  rintro e w' ⟨rfl, rfl⟩
  go_wp2_with fail
  refine (HE1.out _).mono ?_
  rintro e w' ⟨rfl, rfl⟩
  go_wp2_with fail
  go_loop [5] (fun i => ∃ k : Nat, k ≤ T ∧ i = .int .i64 k) (fun i => T - (intOf i).toNat)
  case atStart => exact ⟨0, by omega, rfl⟩
  case round =>
    obtain ⟨k, hk, rfl⟩ := hrel
    by_cases hlt : k < T
    · have hkl : k < l.length := by omega
      have hc1 := HC.out k hlt
      have hb := l[k].toNat_lt
      have q1 : decide ((l[k].toNat : Int) < 32) = false := by simp; omega
      have q2 : ((l[k].toNat : Int) == 127) = false := by rw [beq_eq_false_iff_ne]; omega
      clear hc1
      go_wp2_with fail
      go_round
      case rel => exact ⟨k + 1, by omega, by go_num⟩
      case measure => simp [intOf]; omega
    · obtain rfl : k = T := by omega
      clear HC
      go_wp2_with fail
      refine (HS.out _).mono ?_
      rintro e w' ⟨rfl, rfl⟩
      go_wp2_with fail
      exact bodyPost_ret (v := res none) (by first | (simp [results, Try.results10, go_sem, res]; done) | (simp [results, Try.results10, go_sem, res]; rfl)) rfl ⟨rfl, by (repeat (first | exact Below.refl _ _ | assumption | refine Below.drew ?_ | refine Below.alloc ?_ (by first | exact Nat.le_refl _ | (simp; done) | (simp; omega) | omega) _ | refine Below.setCell ?_ (by first | exact Nat.le_refl _ | (simp; done) | (simp; omega) | omega) _))⟩
set_option maxRecDepth 100000 in
set_option maxHeartbeats 3200000 in
theorem rp_4 (l : Pc.B) (T : Nat) (h : Mk l T) (a e : Nat) (hs : conv (Gu.sch 0 (l.take T)) = (a : Int)) (haT : a ≤ T) (he : fst [63] (l.take T) a = e) (hae : a ≤ e) (heT : e ≤ T) (hp : List.isPrefixOf [47] (lef l e a) = false) (ha0 : 0 < a) (w : World) : Calls Try.prog 10 #[.string ⟨l.toArray⟩] w fun e w' => e = .returned (res (some ([], []))) ∧ Below w.heap.size w w' := by
  have hl := h.hl
  have hTl := h.hTl
  have HT := Lib.hid (fun w => first_any l [35] hl (by decide) 0 (by omega) w)
  rw [h.hT] at HT
  have HE1 := Lib.hid (fun w => escapes_any l hl T l.length hTl (Nat.le_refl _) w)
  rw [h.hv] at HE1
  have HC : Hid (∀ k (h : k < T), ¬ (l[k]'(by omega)).toNat < 32 ∧ (l[k]'(by omega)).toNat ≠ 127) := Lib.hid (fun k g => h.hc k g (by omega))
  clear h
  have HS := Lib.hid (fun w => rscheme_any l hl T hTl w)
  rw [hs] at HS
  have hlT : (l.take T).length = T := by simp; omega
  have hle : (l.take e).length = e := by simp; omega
  have HF := Lib.hid (fun w => first_any (l.take T) [63] (by omega) (by decide) a (by omega) w)
  rw [he] at HF
  have HP := Lib.hid (fun w => starts_any (l.take e) [47] (by omega) (by decide) (by decide) a (by omega) w)
  have hp' : List.isPrefixOf [47] ((l.take e).drop a) = false := hp
  rw [hp'] at HP
  have f1 : (0 : Int) ≤ (T : Int) := by omega
  have f2 : (T : Int) ≤ (l.length : Int) := by omega
  have f3 : (0 : Int) ≤ (e : Int) := by omega
  have f4 : (e : Int) ≤ (l.length : Int) := by omega
  have hel : e ≤ l.length := by omega
  clear hs he hp hp'
  have q5 : decide ((0 : Int) < (a : Int)) = true := by simp; omega
  go_enter Try.func10, Try.ntmps10
  go_wp2_with fail
  refine (HT.out _).mono ?_
  rintro e w' ⟨rfl, rfl⟩
  go_wp2_with fail
  refine (HE1.out _).mono ?_
  rintro e w' ⟨rfl, rfl⟩
  go_wp2_with fail
  go_loop [5] (fun i => ∃ k : Nat, k ≤ T ∧ i = .int .i64 k) (fun i => T - (intOf i).toNat)
  case atStart => exact ⟨0, by omega, rfl⟩
  case round =>
    obtain ⟨k, hk, rfl⟩ := hrel
    by_cases hlt : k < T
    · have hkl : k < l.length := by omega
      have hc1 := HC.out k hlt
      have hb := l[k].toNat_lt
      have q1 : decide ((l[k].toNat : Int) < 32) = false := by simp; omega
      have q2 : ((l[k].toNat : Int) == 127) = false := by rw [beq_eq_false_iff_ne]; omega
      clear hc1
      go_wp2_with fail
      go_round
      case rel => exact ⟨k + 1, by omega, by go_num⟩
      case measure => simp [intOf]; omega
    · obtain rfl : k = T := by omega
      clear HC
      go_wp2_with fail
      refine (HS.out _).mono ?_
      rintro e w' ⟨rfl, rfl⟩
      go_wp2_with fail
      refine (HF.out _).mono ?_
      rintro e w' ⟨rfl, rfl⟩
      go_wp2_with fail
      refine (HP.out _).mono ?_
      rintro e w' ⟨rfl, rfl⟩
      go_wp2_with fail
      exact bodyPost_ret (v := res (some ([], []))) (by first | (simp [results, Try.results10, go_sem, res]; done) | (simp [results, Try.results10, go_sem, res]; rfl)) rfl ⟨rfl, by (repeat (first | exact Below.refl _ _ | assumption | refine Below.drew ?_ | refine Below.alloc ?_ (by first | exact Nat.le_refl _ | (simp; done) | (simp; omega) | omega) _ | refine Below.setCell ?_ (by first | exact Nat.le_refl _ | (simp; done) | (simp; omega) | omega) _))⟩
set_option maxRecDepth 100000 in
set_option maxHeartbeats 3200000 in
theorem rp_5 (l : Pc.B) (T : Nat) (h : Mk l T) (e : Nat) (hs : conv (Gu.sch 0 (l.take T)) = 0) (he : fst [63] (l.take T) 0 = e) (heT : e ≤ T) (hp : List.isPrefixOf [47] (lef l e 0) = false) (hcc : fst [58] (l.take e) 0 < fst [47] (l.take e) 0) (w : World) : Calls Try.prog 10 #[.string ⟨l.toArray⟩] w fun e w' => e = .returned (res none) ∧ Below w.heap.size w w' := by
  have hl := h.hl
  have hTl := h.hTl
  have HT := Lib.hid (fun w => first_any l [35] hl (by decide) 0 (by omega) w)
  rw [h.hT] at HT
  have HE1 := Lib.hid (fun w => escapes_any l hl T l.length hTl (Nat.le_refl _) w)
  rw [h.hv] at HE1
  have HC : Hid (∀ k (h : k < T), ¬ (l[k]'(by omega)).toNat < 32 ∧ (l[k]'(by omega)).toNat ≠ 127) := Lib.hid (fun k g => h.hc k g (by omega))
  clear h
  have HS := Lib.hid (fun w => rscheme_any l hl T hTl w)
  rw [hs] at HS
  have hlT : (l.take T).length = T := by simp; omega
  have hle : (l.take e).length = e := by simp; omega
  have HF := Lib.hid (fun w => first_any (l.take T) [63] (by omega) (by decide) 0 (by omega) w)
  rw [he] at HF
  have HP := Lib.hid (fun w => starts_any (l.take e) [47] (by omega) (by decide) (by decide) 0 (by omega) w)
  have hp' : List.isPrefixOf [47] ((l.take e).drop 0) = false := hp
  rw [hp'] at HP
  have f1 : (0 : Int) ≤ (T : Int) := by omega
  have f2 : (T : Int) ≤ (l.length : Int) := by omega
  have f3 : (0 : Int) ≤ (e : Int) := by omega
  have f4 : (e : Int) ≤ (l.length : Int) := by omega
  have hel : e ≤ l.length := by omega
  clear hs he hp hp'
  have HQ1 := Lib.hid (fun w => first_any (l.take e) [58] (by omega) (by decide) 0 (by omega) w)
  have HQ2 := Lib.hid (fun w => first_any (l.take e) [47] (by omega) (by decide) 0 (by omega) w)
  generalize fst [58] (l.take e) 0 = c1 at hcc HQ1
  generalize fst [47] (l.take e) 0 = c2 at hcc HQ2
  have q6 : decide (c1 < c2) = true := by simp; omega
  go_enter Try.func10, Try.ntmps10
  go_wp2_with fail
  refine (HT.out _).mono ?_
  rintro e w' ⟨rfl, rfl⟩
  go_wp2_with fail
  refine (HE1.out _).mono ?_
  rintro e w' ⟨rfl, rfl⟩
  go_wp2_with fail
  go_loop [5] (fun i => ∃ k : Nat, k ≤ T ∧ i = .int .i64 k) (fun i => T - (intOf i).toNat)
  case atStart => exact ⟨0, by omega, rfl⟩
  case round =>
    obtain ⟨k, hk, rfl⟩ := hrel
    by_cases hlt : k < T
    · have hkl : k < l.length := by omega
      have hc1 := HC.out k hlt
      have hb := l[k].toNat_lt
      have q1 : decide ((l[k].toNat : Int) < 32) = false := by simp; omega
      have q2 : ((l[k].toNat : Int) == 127) = false := by rw [beq_eq_false_iff_ne]; omega
      clear hc1
      go_wp2_with fail
      go_round
      case rel => exact ⟨k + 1, by omega, by go_num⟩
      case measure => simp [intOf]; omega
    · obtain rfl : k = T := by omega
      clear HC
      go_wp2_with fail
      refine (HS.out _).mono ?_
      rintro e w' ⟨rfl, rfl⟩
      go_wp2_with fail
      refine (HF.out _).mono ?_
      rintro e w' ⟨rfl, rfl⟩
      go_wp2_with fail
      refine (HP.out _).mono ?_
      rintro e w' ⟨rfl, rfl⟩
      go_wp2_with fail
      go_quiet (first | (go_at_call_of 26 (Value.string ⟨([58] : Pc.B).toArray⟩); exact Calls.quiet_of_same ((HQ1.out _).mono fun _ _ h => ⟨h.1, h.2.symm⟩)) | (go_at_call 26; exact Calls.quiet_of_same ((HQ2.out _).mono fun _ _ h => ⟨h.1, h.2.symm⟩)))
      go_wp2_with fail
      exact bodyPost_ret (v := res none) (by first | (simp [results, Try.results10, go_sem, res]; done) | (simp [results, Try.results10, go_sem, res]; rfl)) rfl ⟨rfl, by (repeat (first | exact Below.refl _ _ | assumption | refine Below.drew ?_ | refine bl_drewN ?_ | refine Below.alloc ?_ (by first | exact Nat.le_refl _ | (simp; done) | (simp; omega) | omega) _ | refine Below.setCell ?_ (by first | exact Nat.le_refl _ | (simp; done) | (simp; omega) | omega) _))⟩
end Go.Proofs.Ytpccfagbmbbpkaa
