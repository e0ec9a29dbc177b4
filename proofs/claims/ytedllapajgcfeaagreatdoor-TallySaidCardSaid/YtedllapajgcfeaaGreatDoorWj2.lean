/-
  internal/strconv.atof64exact, times a power of ten: walked.
-/
import Derived.Test.YtedllapajgcfeaaGreatDoorWj
namespace Go.Proofs.YtedllapajgcfeaaGreatDoor
set_option linter.unusedVariables false
set_option linter.unusedSimpArgs false
set_option exponentiation.threshold 5000
open Go.RowKit Go.Proofs.YtedllapajgcfeaaGreatDoorW.PrintWords Ieee

set_option maxRecDepth 100000 in
set_option maxHeartbeats 12800000 in
theorem exact_m (neg : Bool) {m : Nat} {E : Int} (F : Sc.Fin m E) (d : Nat) (P : Int) (hd0 : 0 < d) (g52 : d < 4503599627370496) (g : 1 ≤ P) (g' : P ≤ 22) (hI : Sc.In m E d P) (w : World) (hT : TabF w) :
    Calls Tryz.prog 82 #[.int .u64 d, .int .i64 P, .bool neg] w fun e w' => ExP (fw neg (Sc.rg m E)) e ∧ ∃ n, w' = w.drewN n := by
  have c0 := hT.info
  obtain ⟨A, cA, hAlt, hcel⟩ := hT.row
  have HCE := Lib.hid hcel
  clear hcel hT hAlt
  have t52 : ((d : Int) / 4503599627370496 != 0) = false := by simp; omega
  have hcv := run_cnv d
  rw [foi_eq] at hcv
  -- the whole number as a float
  obtain ⟨m0, E0, F0, e0, l0, u0⟩ := Sc.fin_int d hd0 (by omega)
  have hn0 : double.nearest false d 0 = fw false (Sc.rg m0 E0) := Sc.near F0 false d 0 (by omega) (by rw [← e0]; exact Sc.inx_self F0)
  have hr0 := Sc.rg_lt F0
  have hfr := Sc.near_frw neg d d 0 hd0 (by omega) rfl
  have hn1 : double.nearest neg d 0 = fw neg (Sc.rg m0 E0) := Sc.near F0 neg d 0 (by omega) (by rw [← e0]; exact Sc.inx_self F0)
  have hwn : Sc.Wn neg d (fw neg (Sc.rg m0 E0)) := Sc.wn_word F0 neg e0 l0 u0
  rw [hn1] at hfr
  rw [hn0] at hcv
  have hng := run_neg false (Sc.rg m0 E0) (by omega)
  rw [show (!false) = true from rfl] at hng
  have HF := Lib.hid (And.intro F (And.intro hfr (And.intro hwn (And.intro hI hn1))))
  clear F0 e0 l0 u0 hn0 hn1 hr0 hfr hwn hI F
  generalize Sc.rg m0 E0 = r0 at *
  -- times a power of ten
  obtain ⟨k, rfl⟩ : ∃ k : Nat, P = (k : Int) := ⟨P.toNat, by omega⟩
  have cK := HCE.out k (by omega)
  have t0 : ((k : Int) == 0) = false := by simp; omega
  have t1 : decide ((k : Int) > 22) = false := decide_eq_false (by omega)
  rcases frw_cases HF.out.2.1 with ⟨b1, ⟨o1, o2⟩, b3⟩ | ob
  · have hm := run_mul _ _ _ (Sc.mul_in HF.out.1 HF.out.2.2.1 (by omega) (Sc.wv_nat d k) HF.out.2.2.2.1)
    rcases o1 with o1 | o1 <;> rcases o2 with o2 | o2 <;> cases neg
    all_goals
      clear HCE
      go_enter Tryz.func82, Tryz.ntmps82
      go_wp2_with fail
      go_ret2
      exact ⟨⟨_, _, rfl, fun _ => rfl⟩, 0, rfl⟩
  · rcases ob with o1 | ⟨o1, o2⟩ <;> cases neg
    all_goals
      clear HCE
      go_enter Tryz.func82, Tryz.ntmps82
      go_wp2_with fail
      go_ret2
      exact ⟨⟨_, _, rfl, fun h => (by cases h)⟩, 0, rfl⟩
end Go.Proofs.YtedllapajgcfeaaGreatDoor
