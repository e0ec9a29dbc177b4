/-
  internal/strconv.parseFloat64, pack64 at a number that lies at a float64: walked.
-/
import Derived.Test.YtedllapajgcfeaaGreatDoorWg
import Derived.Test.YtedllapajgcfeaaGreatDoorExa
namespace Go.Proofs.YtedllapajgcfeaaGreatDoor
set_option linter.unusedVariables false
set_option linter.unusedSimpArgs false
set_option exponentiation.threshold 5000
open Go.RowKit Go.Proofs.YtedllapajgcfeaaGreatDoorW.PrintWords

theorem run_frombits2 (n : Int) (w : World) : (callFunc 81 #[.int .u64 n]).run Tryz.prog w = .ok (.value (.float .f64 n.toNat)) w := by
  rw [run_callFunc_extern Tryz.func81 (by kernel_rfl) (by kernel_rfl) (by kernel_rfl) (e := Extern.MathFloatBits.float64frombits) (by kernel_rfl)]
  rfl
attribute [go_sem] run_frombits2
def sgn (neg : Bool) : Nat := if neg then 9223372036854775808 else 0
theorem or_sgn (neg : Bool) (k : Nat) (hk : k < 9223372036854775808) : sgn neg ||| k = sgn neg + k := by
  cases neg
  · show 0 ||| k = 0 + k
    rw [Nat.zero_or, Nat.zero_add]
  · show 9223372036854775808 ||| k = 9223372036854775808 + k
    have := Nat.two_pow_add_eq_or_of_lt (i := 63) (b := k) (by omega) 1
    exact this.symm
theorem or_52 (x f : Nat) (hf : f < 4503599627370496) : x * 4503599627370496 ||| f = x * 4503599627370496 + f := by
  have := Nat.two_pow_add_eq_or_of_lt (i := 52) (b := f) hf x
  rw [Nat.mul_comm]
  exact this.symm
theorem and_mask (f : Nat) (hf : f < 4503599627370496) : f &&& 18442240474082181119 = f := by
  have h1 := Nat.and_two_pow_sub_one_eq_mod f 52
  rw [Nat.mod_eq_of_lt (by omega)] at h1
  have h2 : (2 ^ 52 - 1 : Nat) &&& 18442240474082181119 = 2 ^ 52 - 1 := by decide
  calc f &&& 18442240474082181119 = (f &&& (2 ^ 52 - 1)) &&& 18442240474082181119 := by rw [h1]
    _ = f &&& ((2 ^ 52 - 1) &&& 18442240474082181119) := Nat.and_assoc ..
    _ = f := by rw [h2, h1]
/-- The parts of a word: sign, place, digits. -/
theorem pack_bits (neg : Bool) (f x : Nat) (hf : f < 4503599627370496) (hx : x < 2048) :
    ((sgn neg + (4503599627370496 + f)) &&& 18442240474082181119) ||| x * 4503599627370496 = sgn neg + (x * 4503599627370496 + f) := by
  have e1 : sgn neg + (4503599627370496 + f) = sgn neg ||| (1 * 4503599627370496 ||| f) := by
    rw [or_52 1 f hf, or_sgn neg _ (by omega), Nat.one_mul]
  have e2 : sgn neg &&& 18442240474082181119 = sgn neg := by cases neg <;> decide
  rw [e1, Nat.and_or_distrib_right, Nat.and_or_distrib_right, e2, and_mask f hf, show (1 * 4503599627370496 &&& 18442240474082181119 : Nat) = 0 by decide, Nat.zero_or, Nat.or_assoc, Nat.or_comm f, or_52 x f hf, or_sgn neg _ (by omega)]
theorem and_low (f : Nat) (hf : f < 4503599627370496) : f &&& 4503599627370496 = 0 := by
  have h1 := Nat.and_two_pow_sub_one_eq_mod f 52
  rw [Nat.mod_eq_of_lt (by omega)] at h1
  have h2 : (2 ^ 52 - 1 : Nat) &&& 4503599627370496 = 0 := by decide
  calc f &&& 4503599627370496 = (f &&& (2 ^ 52 - 1)) &&& 4503599627370496 := by rw [h1]
    _ = f &&& ((2 ^ 52 - 1) &&& 4503599627370496) := Nat.and_assoc ..
    _ = 0 := by rw [h2, Nat.and_zero]
theorem and_52 (neg : Bool) (m : Nat) (hm : m < 9007199254740992) : (sgn neg + m) &&& 4503599627370496 = if m < 4503599627370496 then 0 else 4503599627370496 := by
  have e2 : sgn neg &&& 4503599627370496 = 0 := by cases neg <;> decide
  rw [← or_sgn neg m (by omega), Nat.and_or_distrib_right, e2, Nat.zero_or]
  by_cases c : m < 4503599627370496
  · rw [if_pos c, and_low m c]
  · rw [if_neg c]
    obtain ⟨f, rfl⟩ : ∃ f, m = 4503599627370496 + f := ⟨m - 4503599627370496, by omega⟩
    have e := or_52 1 f (by omega)
    rw [Nat.one_mul] at e
    rw [← e, Nat.and_or_distrib_right, and_low f (by omega), Nat.or_zero]
    decide
set_option maxHeartbeats 1600000 in
theorem pack_any (neg : Bool) {m : Nat} {E : Int} (F : Sc.Fin m E) (w : World) : Calls Tryz.prog 121 #[.int .u64 (sgn neg + m : Nat), .int .i64 E] w fun e w' => e = .returned (.tuple #[.float .f64 (fw neg (Sc.rg m E)), Value.nilIface]) ∧ ∃ n, w' = w.drewN n := by
  have f1 := F.lo
  have f2 := F.hi
  have f3 := F.lt
  have hs : sgn neg ≤ 9223372036854775808 := by cases neg <;> decide
  have hand : bits .and .u64 ((sgn neg + m : Nat) : Int) 4503599627370496 = ((if m < 4503599627370496 then 0 else 4503599627370496 : Nat) : Int) := by
    rw [show (4503599627370496 : Int) = ((4503599627370496 : Nat) : Int) from rfl, u64_and_nat _ _ (by omega) (by decide), and_52 neg m f3]
  have hfw : fw neg (Sc.rg m E) = sgn neg + Sc.rg m E := by
    cases neg
    · rw [fw_f]; exact (Nat.zero_add _).symm
    · exact fw_t _
  rw [hfw]
  by_cases c : m < 4503599627370496
  · have hE := F.sub c
    have hr : Sc.rg m E = m := by unfold Sc.rg; omega
    rw [hr]
    rw [if_pos c] at hand
    generalize sgn neg + m = v at *
    have hand' : bits .and .u64 ((v : Nat) : Int) 4503599627370496 = 0 := hand
    clear hand hr hfw c F
    go_enter Tryz.func121, Tryz.ntmps121
    go_wp2_with fail
    go_ret2
    exact ⟨rfl, 0, rfl⟩
  · obtain ⟨f, rfl⟩ : ∃ f, m = 4503599627370496 + f := ⟨m - 4503599627370496, by omega⟩
    obtain ⟨x, hx⟩ : ∃ x : Nat, E = (x : Int) - 1075 := ⟨(E + 1075).toNat, by omega⟩
    rw [if_neg c] at hand
    have hb := pack_bits neg f x (by omega) (by omega)
    have hr : Sc.rg (4503599627370496 + f) E = x * 4503599627370496 + f := by unfold Sc.rg; omega
    rw [hr, ← hb]
    have hv : sgn neg + (4503599627370496 + f) < 18446744073709551616 := by omega
    generalize sgn neg + (4503599627370496 + f) = v at *
    have hnot : bits .andNot .u64 ((v : Nat) : Int) 4503599627370496 = ((v &&& 18442240474082181119 : Nat) : Int) := by
      rw [show (4503599627370496 : Int) = ((4503599627370496 : Nat) : Int) from rfl, u64_andNot_nat _ _ hv (by decide)]
    have hle : v &&& 18442240474082181119 ≤ v := Nat.and_le_left
    have hor : bits .or .u64 ((v &&& 18442240474082181119 : Nat) : Int) ((x : Int) * 4503599627370496) = (((v &&& 18442240474082181119) ||| x * 4503599627370496 : Nat) : Int) := by
      rw [show (x : Int) * 4503599627370496 = ((x * 4503599627370496 : Nat) : Int) from by omega, u64_or_nat _ _ (by omega) (by omega)]
    have a1 := i64w (1075 + E) (by omega) (by omega)
    have a2 : IntKind.u64.wrap (1075 + E) = (x : Int) := by rw [u64w _ (by omega) (by omega)]; omega
    have a3 : IntKind.u64.wrap ((x : Int) * 4503599627370496) = (x : Int) * 4503599627370496 := u64w _ (by omega) (by omega)
    have t1 : decide (E ≥ 972) = false := decide_eq_false (by omega)
    have hand' : bits .and .u64 ((v : Nat) : Int) 4503599627370496 = 4503599627370496 := hand
    generalize (v &&& 18442240474082181119) ||| x * 4503599627370496 = r at *
    generalize v &&& 18442240474082181119 = v2 at *
    clear hand hr hb hfw hle hs hv F c hx f3
    go_enter Tryz.func121, Tryz.ntmps121
    go_wp2_with fail
    go_ret2
    exact ⟨rfl, 0, rfl⟩
theorem dbits {d : Nat} (h0 : 0 < d) (h1 : d < 2 ^ 57) : 1 ≤ Lib.bitLen d ∧ Lib.bitLen d ≤ 57 ∧ 2 ^ (Lib.bitLen d - 1) ≤ d ∧ d < 2 ^ Lib.bitLen d := by
  obtain ⟨a1, a2, a3⟩ := Lib.bitLenAux_bounds 64 d (by omega) (by omega)
  change 1 ≤ Lib.bitLen d at a1
  change 2 ^ (Lib.bitLen d - 1) ≤ d at a2
  change d < 2 ^ Lib.bitLen d at a3
  refine ⟨a1, ?_, a2, a3⟩
  rcases Nat.lt_or_ge 57 (Lib.bitLen d) with g | g
  · have : 2 ^ 57 ≤ 2 ^ (Lib.bitLen d - 1) := Nat.pow_le_pow_right (by omega) (by omega)
    omega
  · exact g
theorem or_low (u b : Nat) (hu : u < 18446744073709551616) (hb : b = u % 2) : bits .or .u64 (u : Int) (b : Int) = (u : Int) := by
  subst hb
  rcases Nat.mod_two_eq_zero_or_one u with g | g
  · rw [g]; exact or_zero u hu
  · rw [g, show ((1 : Nat) : Int) = 1 from rfl, or_one u hu]
    congr 1
    unfold Sc.od
    omega
theorem or_shr (u : Nat) (hu : u < 18446744073709551616) : bits .or .u64 ((u : Int) / 2) ((u : Int) % 2) = (Sc.shr1 u : Nat) := by
  rw [show (u : Int) / 2 = ((u / 2 : Nat) : Int) from by push_cast; rfl, show (u : Int) % 2 = ((u % 2 : Nat) : Int) from by push_cast; rfl]
  unfold Sc.shr1
  rcases Nat.mod_two_eq_zero_or_one u with g | g
  · rw [g, if_neg (by omega)]; exact or_zero _ (by omega)
  · rw [g, if_pos rfl, show ((1 : Nat) : Int) = 1 from rfl, or_one _ (by omega)]
set_option maxRecDepth 100000 in
set_option maxHeartbeats 3200000 in
theorem pars_any (neg : Bool) {m : Nat} {E : Int} (F : Sc.Fin m E) (d : Nat) (P : Int) (hd0 : 0 < d) (hd : d < 2 ^ 57) (h1 : -345 ≤ P) (h2 : P ≤ 310) (hI : Sc.In m E d P) (w : World) (hT : TabP w) : Calls Tryz.prog 83 #[.int .u64 d, .int .i64 P, .int .u64 (sgn neg : Nat)] w fun e w' => e = .returned (.tuple #[.float .f64 (fw neg (Sc.rg m E)), Value.nilIface]) ∧ Below w.heap.size w w' := by
  have hlen : ∀ z, Calls Tryz.prog 61 #[.int .u64 d] z fun e w' => e = .returned (.int .i64 (Lib.bitLen d : Nat)) ∧ z = w' := fun z => (Tryz.bits_Len64 d z (by omega) (by omega)).mono (by rintro e w' ⟨rfl, rfl⟩; exact ⟨rfl, rfl⟩)
  have HL := Lib.hid hlen
  obtain ⟨b1, b2, b3, b4⟩ := dbits hd0 hd
  have PR := Sc.parse F hI h1 h2 hd (by omega) b1 b3 b4
  have R := Sc.row_f P (by omega) (by omega)
  generalize Lib.bitLen d = b at *
  have hlp : -1200 ≤ Sc.lp P ∧ Sc.lp P ≤ 1200 := by unfold Sc.lp; omega
  obtain ⟨lp1, lp2⟩ := hlp
  have hpe : Sc.pe b P ≤ 1074 := by unfold Sc.pe; omega
  have hpe2 : -1300 ≤ Sc.pe b P := by unfold Sc.pe; omega
  have hmin : min 1074 (53 - (b : Int) - Sc.lp P) = Sc.pe b P := rfl
  obtain ⟨s8, s64, PR⟩ := PR
  have x0 : 9223372036854775808 ≤ d * 2 ^ (64 - b) := by
    have : 2 ^ (b - 1) * 2 ^ (64 - b) ≤ d * 2 ^ (64 - b) := Nat.mul_le_mul_right _ b3
    rwa [← Nat.pow_add, show b - 1 + (64 - b) = 63 from by omega] at this
  have x1 : d * 2 ^ (64 - b) < 18446744073709551616 := by
    have : d * 2 ^ (64 - b) < 2 ^ b * 2 ^ (64 - b) := Nat.mul_lt_mul_of_pos_right b4 (Nat.two_pow_pos _)
    rwa [← Nat.pow_add, show b + (64 - b) = 64 from by omega] at this
  have hu : Sc.pu d b (Sc.pe b P) P < 2 ^ 60 := Sc.us_lt x1 R.h1 (by omega)
  have HPR := Lib.hid (prescale_new (Sc.pe b P - (64 - (b : Int))) P (Sc.lp P) (by omega) (by omega) w hT (by omega) (by omega))
  have HUS := Lib.hid (fun w' c0 c1 c2 => uscale_any (d * 2 ^ (64 - b)) w.heap.size (Sc.row P).1 (Sc.row P).2 (61 - Sc.pe b P - b - Sc.lp P).toNat w' x1 R.h1 R.h2 (by omega) (by
    have : 9223372036854775808 * 2 ^ 63 ≤ d * 2 ^ (64 - b) * (Sc.row P).1 := Nat.mul_le_mul x0 R.h3
    omega) c0 c1 c2)
  have HPK := Lib.hid (fun z => pack_any neg F z)
  have HLP := Lib.hid (fun z => log2_any P (by omega) (by omega) z)
  have hr : fw neg (Sc.rg m E) = fw neg (Sc.rg m E) := rfl
  generalize fw neg (Sc.rg m E) = res at HPK ⊢
  change Hid (∀ w', _ → _ → _ → Calls _ _ _ _ fun e w'' => e = .returned (.int .u64 (Sc.pu d b (Sc.pe b P) P : Nat)) ∧ _) at HUS
  generalize Sc.pu d b (Sc.pe b P) P = u at *
  generalize Sc.pe b P = e0 at *
  generalize Sc.lp P = lpv at *
  have HU0 := Lib.hid hu
  have hM := F.lt
  have hor : bits .or .u64 (sgn neg : Nat) (m : Int) = ((sgn neg + m : Nat) : Int) := by
    have hs : sgn neg ≤ 9223372036854775808 := by cases neg <;> decide
    rw [u64_or_nat _ _ (by omega) (by omega), or_sgn neg m (by omega)]
  have a1 := i64w (53 - (b : Int)) (by omega) (by omega)
  have a2 := i64w (53 - (b : Int) - lpv) (by omega) (by omega)
  have a3 := i64w (64 - (b : Int)) (by omega) (by omega)
  have a4 := i64w (e0 - (64 - (b : Int))) (by omega) (by omega)
  have a5 : IntKind.u64.wrap ((d : Int) * 2 ^ (64 - b)) = ((d * 2 ^ (64 - b) : Nat) : Int) := by
    rw [show ((d : Int) * 2 ^ (64 - b)) = ((d * 2 ^ (64 - b) : Nat) : Int) from by push_cast; rfl]
    exact u64w _ (by omega) (by omega)
  have a6 : (64 - (b : Int)).toNat = 64 - b := by omega
  have HS := Lib.hid (And.intro s8 s64)
  clear hlen x0 x1 b3 b4 hu R hT hI s8 s64
  generalize sgn neg = sg at *
  go_enter Tryz.func83, Tryz.ntmps83
  go_wp2_with fail
  refine (HL.out _).mono ?_
  rintro e w1 ⟨rfl, rfl⟩
  go_wp2_with fail
  refine (HLP.out _).mono ?_
  rintro e w1 ⟨rfl, rfl⟩
  go_wp2_with fail
  refine (HPR.out).mono ?_
  rintro e w1 ⟨rfl, hB, c0, c1, c2⟩
  replace hB := Lib.hid hB
  replace c0 := Lib.hid c0
  replace c1 := Lib.hid c1
  have hc2 : -(e0 - (64 - (b : Int)) + lpv + 3) = (((61 - e0 - b - lpv).toNat : Nat) : Int) := by have := HS.out; omega
  rw [hc2] at c2
  have hsl : (61 - e0 - b - lpv).toNat < 64 := by have := HS.out; omega
  generalize (61 - e0 - b - lpv).toNat = sc at *
  have c2' := Lib.hid c2
  have t64 : decide ((sc : Int) ≥ 64) = false := decide_eq_false (by omega)
  clear hc2
  go_wp2_with fail
  refine (HUS.out _ c0.out c1.out c2'.out).mono ?_
  rintro e w2 ⟨rfl, n2, rfl⟩
  have hB2 := Lib.hid (below_drewN hB.out n2)
  clear hB c0 c1 c2 c2'
  generalize World.drewN w1 n2 = w2 at *
  have a9 := i64w (-e0) (by omega) (by omega)
  rcases PR with ⟨p1, p2, p3⟩ | ⟨p1, p2, p3⟩
  · have d1 : decide (u ≥ 36028797018963966) = false := decide_eq_false (by omega)
    have HB1 : Hid (∀ z, Calls Tryz.prog 106 #[.bool (decide ((36028797018963966 : Int) ≤ (u : Int)))] z fun e w' => e = .returned (.int .i64 0) ∧ z = w') := Lib.hid (fun z => by rw [show decide ((36028797018963966 : Int) ≤ (u : Int)) = false from decide_eq_false (by omega)]; exact bool2i_any false z)
    have r1 : bits .or .u64 (u : Int) ((u : Int) % 2) = (u : Int) := or_low u (u % 2) (by have := HU0.out; omega) rfl
    have r2 : bits .and .u64 (u : Int) 1 = ((u % 2 : Nat) : Int) := u64_and_one u (by have := HU0.out; omega)
    have HRD := Lib.hid (fun z => round_any u (by have := HU0.out; omega) z)
    rw [p2] at HRD
    subst p3
    clear p2 d1 p1
    go_wp2_with fail
    refine (unmin_any _).mono ?_
    rintro e w3 ⟨rfl, rfl⟩
    go_wp2_with fail
    refine (HB1.out _).mono ?_
    rintro e w3 ⟨rfl, rfl⟩
    go_wp2_with fail
    refine (HRD.out _).mono ?_
    rintro e w3 ⟨rfl, rfl⟩
    go_wp2_with fail
    refine (HPK.out _).mono ?_
    rintro e w3 ⟨rfl, n3, rfl⟩
    have hB3 := Lib.hid (below_drewN hB2.out n3)
    go_wp2_with fail
    go_ret2
    exact ⟨rfl, hB3.out⟩
  · have HB1 : Hid (∀ z, Calls Tryz.prog 106 #[.bool (decide ((36028797018963966 : Int) ≤ (u : Int)))] z fun e w' => e = .returned (.int .i64 1) ∧ z = w') := Lib.hid (fun z => by rw [show decide ((36028797018963966 : Int) ≤ (u : Int)) = true from decide_eq_true (by omega)]; exact bool2i_any true z)
    have r1 := or_shr u (by have := HU0.out; omega)
    have r2 : bits .and .u64 (u : Int) 1 = ((u % 2 : Nat) : Int) := u64_and_one u (by have := HU0.out; omega)
    have hsl : Sc.shr1 u < 2305843009213693952 := by have := HU0.out; unfold Sc.shr1 Sc.od; split <;> omega
    have HRD := Lib.hid (fun z => round_any (Sc.shr1 u) hsl z)
    rw [p2] at HRD
    have a10 := i64w (e0 - 1) (by omega) (by omega)
    have a11 := i64w (-(e0 - 1)) (by omega) (by omega)
    have p3' : -(e0 - 1) = E := by omega
    clear p2 p1 p3 hsl
    go_wp2_with fail
    refine (unmin_any _).mono ?_
    rintro e w3 ⟨rfl, rfl⟩
    go_wp2_with fail
    refine (HB1.out _).mono ?_
    rintro e w3 ⟨rfl, rfl⟩
    go_wp2_with fail
    refine (HRD.out _).mono ?_
    rintro e w3 ⟨rfl, rfl⟩
    go_wp2_with fail
    refine (HPK.out _).mono ?_
    rintro e w3 ⟨rfl, n3, rfl⟩
    have hB3 := Lib.hid (below_drewN hB2.out n3)
    go_wp2_with fail
    go_ret2
    exact ⟨rfl, hB3.out⟩
end Go.Proofs.YtedllapajgcfeaaGreatDoor
