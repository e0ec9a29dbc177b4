/-
  internal/strconv.atof64exact, times a power of ten: walked.
-/
import Derived.Test.YtedllapajgcfeaaGreatDoorWj2
namespace Go.Proofs.YtedllapajgcfeaaGreatDoor
set_option linter.unusedVariables false
set_option linter.unusedSimpArgs false
set_option exponentiation.threshold 5000
open Go.RowKit Go.Proofs.YtedllapajgcfeaaGreatDoorW.PrintWords Ieee

set_option maxRecDepth 100000 in
set_option maxHeartbeats 3200000 in
theorem exact_l (neg : Bool) {m : Nat} {E : Int} (F : Sc.Fin m E) (d : Nat) (P : Int) (hd0 : 0 < d) (g52 : d < 4503599627370496) (g : 22 < P) (g' : P ≤ 37) (hI : Sc.In m E d P) (w : World) (hT : TabF w) :
    Calls Tryz.prog 82 #[.int .u64 d, .int .i64 P, .bool neg] w fun e w' => ExP (fw neg (Sc.rg m E)) e ∧ ∃ n, w' = w.drewN n := by
  have c0 := hT.info
  obtain ⟨A, cA, hAlt, hcel⟩ := hT.row
  have HCE := Lib.hid hcel
  clear hcel hT hAlt
  have t52 : ((d : Int) / 4503599627370496 != 0) = false := by simp; omega
  have hcv := run_cnv d
  rw [foi_eq] at hcv
  -- the whole number as a float
  obtain ⟨m0, E0, F0, e0, l0, u0⟩ := Sc.fin_int d hd0 (by omega)
  have hn0 : double.nearest false d 0 = fw false (Sc.rg m0 E0) := Sc.near F0 false d 0 (by omega) (by rw [← e0]; exact Sc.inx_self F0)
  have hr0 := Sc.rg_lt F0
  have hfr := Sc.near_frw neg d d 0 hd0 (by omega) rfl
  have hn1 : double.nearest neg d 0 = fw neg (Sc.rg m0 E0) := Sc.near F0 neg d 0 (by omega) (by rw [← e0]; exact Sc.inx_self F0)
  have hwn : Sc.Wn neg d (fw neg (Sc.rg m0 E0)) := Sc.wn_word F0 neg e0 l0 u0
  rw [hn1] at hfr
  rw [hn0] at hcv
  have hng := run_neg false (Sc.rg m0 E0) (by omega)
  rw [show (!false) = true from rfl] at hng
  have HF := Lib.hid (And.intro F (And.intro hfr (And.intro hwn (And.intro hI hn1))))
  clear F0 e0 l0 u0 hn0 hn1 hr0 hfr hwn hI F
  generalize Sc.rg m0 E0 = r0 at *
  obtain ⟨j, hj⟩ : ∃ j : Nat, P = (j : Int) + 22 := ⟨(P - 22).toNat, by omega⟩
  have cJ := HCE.out j (by omega)
  have cK : w.cell? (⟨A.block, A.off + 22, none⟩ : Addr) = some (.float .f64 (Sc.pw 22)) := HCE.out 22 (by omega)
  have t0 : (P == 0) = false := by simp; omega
  have t1 : decide (P > 22) = true := decide_eq_true (by omega)
  have t2 : decide (P ≤ 37) = true := decide_eq_true (by omega)
  have a1 : IntKind.i64.wrap (P - 22) = P - 22 := i64w _ (by omega) (by omega)
  have a4 : 0 ≤ P - 22 := by omega
  have a5 : P - 22 < 23 := by omega
  have a2 : (P - 22).toNat = j := by omega
  obtain ⟨mag, place, q1, q2, q3⟩ := Sc.mul_num HF.out.2.2.1 (Sc.pw_f j (by omega))
  have hm1 := run_mul _ _ _ q1
  have hfr2 := Sc.near_frw neg (d * 10 ^ j) mag place (Nat.mul_pos hd0 (Nat.pow_pos (by omega))) q3 q2
  generalize double.nearest neg mag place = x1 at *
  rcases frw_cases hfr2 with ⟨b1, ⟨o1, o2⟩, b3⟩ | ob
  · have hm := run_mul _ _ _ (Sc.mul_in HF.out.1 b3 (k := 22) (by omega) (by
      rw [show P = ((j + 22 : Nat) : Int) from by omega, Sc.wv_nat, Nat.pow_add, ← Nat.mul_assoc]) HF.out.2.2.2.1)
    clear b3 hfr2 q1 q2 q3 b1
    generalize Sc.pw 22 = p22 at *
    generalize Sc.pw j = pj at *
    clear hj
    rcases o1 with o1 | o1 <;> rcases o2 with o2 | o2 <;> cases neg
    all_goals
      clear HCE
      go_enter Tryz.func82, Tryz.ntmps82
      go_wp2_with fail
      go_ret2
      exact ⟨⟨_, _, rfl, fun _ => rfl⟩, 0, rfl⟩
  · clear hfr2 q1 q2 q3
    generalize Sc.pw 22 = p22 at *
    generalize Sc.pw j = pj at *
    clear hj
    rcases ob with o1 | ⟨o1, o2⟩ <;> cases neg
    all_goals
      clear HCE
      go_enter Tryz.func82, Tryz.ntmps82
      go_wp2_with fail
      go_ret2
      exact ⟨⟨_, _, rfl, fun h => (by cases h)⟩, 0, rfl⟩
theorem exact_any (neg : Bool) {m : Nat} {E : Int} (F : Sc.Fin m E) (d : Nat) (P : Int) (hd0 : 0 < d) (hI : Sc.In m E d P) (w : World) (hT : TabF w) :
    Calls Tryz.prog 82 #[.int .u64 d, .int .i64 P, .bool neg] w fun e w' => ExP (fw neg (Sc.rg m E)) e ∧ ∃ n, w' = w.drewN n := by
  by_cases g52 : d < 4503599627370496
  · rcases (by omega : P = 0 ∨ (1 ≤ P ∧ P ≤ 22) ∨ (22 < P ∧ P ≤ 37) ∨ (-22 ≤ P ∧ P < 0) ∨ P < -22 ∨ 37 < P) with g | ⟨g, g'⟩ | ⟨g, g'⟩ | ⟨g, g'⟩ | g | g
    · exact exact_z neg F d P hd0 g52 g hI w hT
    · exact exact_m neg F d P hd0 g52 g g' hI w hT
    · exact exact_l neg F d P hd0 g52 g g' hI w hT
    · exact exact_q neg F d P hd0 g52 g g' hI w hT
    · exact exact_lo neg F d P hd0 g52 g hI w hT
    · exact exact_hi neg F d P hd0 g52 g hI w hT
  · exact exact_g neg _ d P (by omega) w hT
end Go.Proofs.YtedllapajgcfeaaGreatDoor
