/-
  TallySaid: what is said of a plain number is read as that number, its sign too; other ones are said by words. Walked.
-/
import Derived.Test.YtedllapajgcfeaaGreatDoorWl
import Derived.Test.YtedllapajgcfeaaGreatDoorTy
import Derived.Test.YtedllapajgcfeaaGreatDoorAwk5
import Derived.Test.YtedllapajgcfeaaGreatDoorRk
import Derived.Test.YtedllapajgcfeaaGreatDoorStr
namespace Go.Proofs.YtedllapajgcfeaaGreatDoor
set_option linter.unusedVariables false
set_option linter.unusedSimpArgs false
set_option exponentiation.threshold 5000
open Go.RowKit Go.Proofs.YtedllapajgcfeaaGreatDoorW.PrintWords


theorem fin_of (r : Nat) (h : r < 9218868437227405312) (h0 : r ≠ 0) : ∃ m E, Sc.Fin m E ∧ r = Sc.rg m E := by
  by_cases c : r < 4503599627370496
  · exact ⟨r, -1074, ⟨by omega, by omega, by omega, by omega, by omega⟩, by unfold Sc.rg; omega⟩
  · refine ⟨4503599627370496 + r % 4503599627370496, ((r / 4503599627370496 : Nat) : Int) - 1075, ⟨by omega, by omega, by omega, by omega, by omega⟩, ?_⟩
    unfold Sc.rg
    omega
theorem tx_ne {neg : Bool} {l : List UInt8} {r : Nat} (H : Tx neg l r) : l ≠ [110, 97, 110] ∧ l ≠ [105, 110, 102] ∧ l ≠ [45, 105, 110, 102] := by
  obtain ⟨M, X, _, h1, _, _, _, hf, hl, _⟩ := H.ex
  obtain ⟨c, t, rfl⟩ : ∃ c t, M = c :: t := by
    cases M with
    | nil => simp at h1
    | cons c t => exact ⟨c, t, rfl⟩
  have hd := hf (by simp)
  have hc : c ≠ 110 ∧ c ≠ 105 := by
    refine ⟨fun e => ?_, fun e => ?_⟩
    all_goals
      rw [show (c :: t)[0] = c from rfl, e] at hd
      exact absurd hd (by decide)
  refine ⟨fun h => ?_, fun h => ?_, fun h => ?_⟩
  · have this := hl.symm.trans h
    cases neg
    · simp [sgB] at this; exact hc.1 this.1
    · simp [sgB] at this
  · have this := hl.symm.trans h
    cases neg
    · simp [sgB] at this; exact hc.2 this.1
    · simp [sgB] at this
  · have this := hl.symm.trans h
    cases neg
    · simp [sgB] at this
      rw [show (c :: t)[0] = c from rfl, this.1] at hd
      exact absurd hd (by decide)
    · simp [sgB] at this; exact hc.2 this.1
/-- What is said of a finite one. -/
theorem said_text (neg : Bool) (r : Nat) (hr : r < 9218868437227405312) (w : World) (hT : Tb w) (hP : TabP w) : ∃ l, Tx neg l r ∧ Calls Tryz.prog 5 #[.float .f64 (fw neg r)] w fun e w' => e = .returned (.string ⟨l.toArray⟩) ∧ Below w.heap.size w w' := by
  by_cases h0 : r = 0
  · subst h0
    exact ⟨_, tx_zero neg, text_of neg 0 hr _ _ (tb_str _) w (ftoa_zero neg w)⟩
  · obtain ⟨m, E, F, rfl⟩ := fin_of r hr h0
    obtain ⟨a, k, dp, S⟩ := sd_ex F
    exact ⟨_, tx_fin neg F S, text_of neg _ hr _ _ (tb_str _) w (ftoa_fin neg F S w hT hP)⟩
set_option maxRecDepth 100000 in
set_option maxHeartbeats 6400000 in
theorem said_any (x : Nat) (hx : x < 18446744073709551616) (w : World) (hT : Tb w) (hQ : TabQ w) : Calls Tryz.prog 3 #[.float .f64 x] w fun e w' => e = .returned (.bool true) ∧ Below w.heap.size w w' := by
  have HT := Lib.hid hT
  have HQ := Lib.hid hQ
  by_cases hn : nanB x = true
  · have HX := Lib.hid (text_nan x hn w)
    have HA := Lib.hid (awake5_any w hT)
    have ho := Lib.hid (ordself_nan hn)
    have h1 := ho.out
    clear hT hQ
    go_enter Tryz.func3, Tryz.ntmps3
    go_wp2_with fail
    refine (HX.out).mono ?_
    rintro e w1 ⟨rfl, rfl⟩
    go_wp2_with (first | (go_at_call 6; refine (HA.out).mono ?_; rintro e w2 ⟨rfl, hB⟩; have HB := Lib.hid hB; clear hB) | fail)
    go_ret
    exact ⟨rfl, HB.out⟩
  · have hn' : nanB x = false := by simpa using hn
    by_cases hi : x % 9223372036854775808 = 9218868437227405312
    · have hxx : x = 9218868437227405312 ∨ x = 18442240474082181120 := by omega
      rcases hxx with rfl | rfl
      · have HX := Lib.hid (text_inf w)
        have HA := Lib.hid (awake5_any w hT)
        have HI := Lib.hid (isInf_gt 9218868437227405312 (by decide +kernel))
        clear hT hQ
        go_enter Tryz.func3, Tryz.ntmps3
        go_wp2_with fail
        refine (HX.out).mono ?_
        rintro e w1 ⟨rfl, rfl⟩
        go_wp2_with (first | (go_at_call 7; refine (HI.out _).mono ?_; rintro e w2 ⟨rfl, rfl⟩) | (go_at_call 6; refine (HA.out).mono ?_; rintro e w2 ⟨rfl, hB⟩; have HB := Lib.hid hB; clear hB) | fail)
        go_ret
        exact ⟨rfl, HB.out⟩
      · have HX := Lib.hid (text_minf w)
        have HA := Lib.hid (awake5_any w hT)
        have HI := Lib.hid (isInf_mgt 18442240474082181120 9218868437227405312 (fun w => rfl) (by decide +kernel))
        clear hT hQ
        go_enter Tryz.func3, Tryz.ntmps3
        go_wp2_with fail
        refine (HX.out).mono ?_
        rintro e w1 ⟨rfl, rfl⟩
        go_wp2_with (first | (go_at_call 7; refine (HI.out _).mono ?_; rintro e w2 ⟨rfl, rfl⟩) | (go_at_call 6; refine (HA.out).mono ?_; rintro e w2 ⟨rfl, hB⟩; have HB := Lib.hid hB; clear hB) | fail)
        go_ret
        exact ⟨rfl, HB.out⟩
    · have hr : x % 9223372036854775808 < 9218868437227405312 := by
        rcases Nat.lt_or_ge (x % 9223372036854775808) 9218868437227405312 with g | g
        · exact g
        · exfalso
          apply hn
          rw [nanB_iff]
          unfold Fl.Nan Fl.ex Fl.fr
          omega
      obtain ⟨sg, hsg⟩ : ∃ sg, x = fw sg (x % 9223372036854775808) := by
        by_cases g : x < 9223372036854775808
        · exact ⟨false, by rw [fw_f]; omega⟩
        · exact ⟨true, by rw [fw_t]; omega⟩
      have hand : bits .andNot .u64 (x : Int) 9223372036854775808 = ((x % 9223372036854775808 : Nat) : Int) := by
        rw [show (9223372036854775808 : Int) = ((9223372036854775808 : Nat) : Int) from rfl, u64_andNot_nat _ _ hx (by decide)]
        congr 1
        exact Nat.and_two_pow_sub_one_eq_mod x 63
      have hgt : gtB (x % 9223372036854775808) = false := by
        have := ord_max false _ hr
        rw [fw_f] at this
        unfold gtB
        rcases this with h | h <;> rw [h] <;> rfl
      have HI0 := Lib.hid (isInf_at x _ hand)
      rw [hgt] at HI0
      obtain ⟨l, HTX, HC⟩ := said_text sg _ hr w hT hQ.p
      rw [← hsg] at HC
      have HX := Lib.hid HC
      have HPF := Lib.hid (fun z h => parsefloat_any sg l _ HTX z h)
      rw [← hsg] at HPF
      obtain ⟨s1, s2, s3⟩ := tx_ne HTX
      have HCP := Lib.hid (compare_any x x hx hx)
      have hcp : cp x x = 0 := by rw [cp_rk]; unfold c3; simp
      rw [hcp] at HCP
      have HAW := Lib.hid (fun z h => awake5_any z h)
      have ho := ordself_no hn'
      clear HC HTX hcp hgt hand hsg hr hi hT hQ
      have e1 : (l == [110, 97, 110]) = false := by simpa using s1
      have e2 : (l == [105, 110, 102]) = false := by simpa using s2
      have e3 : (l == [45, 105, 110, 102]) = false := by simpa using s3
      clear s1 s2 s3
      go_enter Tryz.func3, Tryz.ntmps3
      go_wp2_with fail
      refine (HX.out).mono ?_
      rintro e w1 ⟨rfl, hB1⟩
      have HB1 := Lib.hid hB1
      have HQ1 := Lib.hid (HQ.out.below hB1)
      clear hB1
      go_wp2_with fail
      refine (HPF.out _ HQ1.out).mono ?_
      rintro e w2 ⟨rfl, hB2⟩
      have HB2 := Lib.hid (HB1.out.trans (hB2.mono HB1.out.size))
      clear hB2
      go_wp2_with fail
      refine (HCP.out _).mono ?_
      rintro e w3 ⟨rfl, hB3⟩
      have HB3 := Lib.hid (HB2.out.trans (hB3.mono HB2.out.size))
      clear hB3
      have HA := Lib.hid (HAW.out _ (HT.out.below HB3.out))
      go_wp2_with fail
      refine (HI0.out _).mono ?_
      rintro e w4 ⟨rfl, rfl⟩
      go_wp2_with fail
      refine (HA.out).mono ?_
      rintro e w5 ⟨rfl, hB5⟩
      have HB5 := Lib.hid (HB3.out.trans (hB5.mono HB3.out.size))
      clear hB5
      go_wp2_with fail
      go_ret
      exact ⟨rfl, HB5.out⟩
end Go.Proofs.YtedllapajgcfeaaGreatDoor
