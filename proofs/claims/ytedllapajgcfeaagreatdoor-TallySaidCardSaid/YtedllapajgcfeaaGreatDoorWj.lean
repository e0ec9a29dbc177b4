/-
  internal/strconv.atof64exact at a number that lies at a float64: walked.
-/
import Derived.Test.YtedllapajgcfeaaGreatDoorWi
namespace Go.Proofs.YtedllapajgcfeaaGreatDoor
set_option linter.unusedVariables false
set_option linter.unusedSimpArgs false
set_option exponentiation.threshold 5000
open Go.RowKit Go.Proofs.YtedllapajgcfeaaGreatDoorW.PrintWords Ieee

/-- The tables of the float64s' own. -/
structure TabF (w : World) : Prop where
  info : w.cell? ⟨5, 0, none⟩ = some (.int .u64 52)
  row : ∃ A : Addr, w.cell? ⟨9, 0, none⟩ = some (.slice (some A) 23 23) ∧ A.block < w.heap.size ∧ ∀ k, k < 23 → w.cell? (A.add k) = some (.float .f64 (Sc.pw k))
  lt1 : 5 < w.heap.size
  lt2 : 9 < w.heap.size
/-- What comes back: if it is said to be exact, it is this one. -/
def ExP (r : Nat) (e : Ending) : Prop := ∃ f ok, e = .returned (.tuple #[.float .f64 f, .bool ok]) ∧ (ok = true → f = r)
theorem run_cnv (n : Nat) (W : World) : (convert 53 22 (.int .u64 (n : Int))).run Tryz.prog W = .ok (.float .f64 (floatOfInt .f64 (n : Int))) W := run_convert_int_float (P := Tryz.prog) (w := W) 53 22 .u64 .f64 (n : Int) (by rw [Tryz.underlying53]; rfl) Tryz.underlying22
theorem foi_eq (d : Nat) : floatOfInt .f64 (d : Int) = double.nearest false d 0 := by
  unfold floatOfInt
  show double.write (.number (decide ((d : Int) < 0)) ((d : Int).natAbs) 0) = _
  rw [show decide ((d : Int) < 0) = false from decide_eq_false (by omega), Int.natAbs_natCast]
  rfl
theorem fw_word (s : Bool) (r : Nat) : double.word s r = fw s r := rfl
/-- How it stands to 10 to the power of 15. -/
def Small (x : Nat) : Prop := (FloatKind.f64.format.order x 4831355200913801216 = some .lt ∨ FloatKind.f64.format.order x 4831355200913801216 = some .eq) ∧ (FloatKind.f64.format.order x 14054727237768577024 = some .gt ∨ FloatKind.f64.format.order x 14054727237768577024 = some .eq)
def Big (x : Nat) : Prop := FloatKind.f64.format.order x 4831355200913801216 = some .gt ∨ (FloatKind.f64.format.order x 4831355200913801216 = some .lt ∧ FloatKind.f64.format.order x 14054727237768577024 = some .lt)
theorem frw_cases {s : Bool} {a x : Nat} (h : Sc.Frw s a x) : (a ≤ 1000000000000000 ∧ Small x ∧ Sc.Wn s a x) ∨ Big x := by
  rcases Nat.lt_or_ge 1000000000000000 a with g | g
  · obtain ⟨r, rfl, r1, r2⟩ := h.big g
    obtain ⟨o1, o2, o3⟩ := Sc.order_big r1 r2
    right
    cases s
    · exact Or.inl o1
    · exact Or.inr ⟨o3, o2⟩
  · obtain ⟨hw, r, rfl, r2⟩ := h.small g
    obtain ⟨o1, o2, o3, o4⟩ := Sc.order_small r2
    refine Or.inl ⟨g, ?_, hw⟩
    cases s
    · exact ⟨o1, Or.inl o2⟩
    · exact ⟨Or.inl o4, o3⟩
theorem run_mul (x y r : Nat) (h : double.mul x y = some r) (W : World) : (binOp .mul 22 (.float .f64 x) (.float .f64 y)).run Tryz.prog W = .ok (.float .f64 r) W := run_float_arith W .mul _ .f64 x y r h
theorem run_quo (x y r : Nat) (h : double.div x y = some r) (W : World) : (binOp .quo 22 (.float .f64 x) (.float .f64 y)).run Tryz.prog W = .ok (.float .f64 r) W := run_float_arith W .quo _ .f64 x y r h
set_option maxRecDepth 100000 in
set_option maxHeartbeats 12800000 in
theorem exact_z (neg : Bool) {m : Nat} {E : Int} (F : Sc.Fin m E) (d : Nat) (P : Int) (hd0 : 0 < d) (g52 : d < 4503599627370496) (g : P = 0) (hI : Sc.In m E d P) (w : World) (hT : TabF w) :
    Calls Tryz.prog 82 #[.int .u64 d, .int .i64 P, .bool neg] w fun e w' => ExP (fw neg (Sc.rg m E)) e ∧ ∃ n, w' = w.drewN n := by
  have c0 := hT.info
  obtain ⟨A, cA, hAlt, hcel⟩ := hT.row
  have HCE := Lib.hid hcel
  clear hcel hT hAlt
  have t52 : ((d : Int) / 4503599627370496 != 0) = false := by simp; omega
  have hcv := run_cnv d
  rw [foi_eq] at hcv
  -- the whole number as a float
  obtain ⟨m0, E0, F0, e0, l0, u0⟩ := Sc.fin_int d hd0 (by omega)
  have hn0 : double.nearest false d 0 = fw false (Sc.rg m0 E0) := Sc.near F0 false d 0 (by omega) (by rw [← e0]; exact Sc.inx_self F0)
  have hr0 := Sc.rg_lt F0
  have hfr := Sc.near_frw neg d d 0 hd0 (by omega) rfl
  have hn1 : double.nearest neg d 0 = fw neg (Sc.rg m0 E0) := Sc.near F0 neg d 0 (by omega) (by rw [← e0]; exact Sc.inx_self F0)
  have hwn : Sc.Wn neg d (fw neg (Sc.rg m0 E0)) := Sc.wn_word F0 neg e0 l0 u0
  rw [hn1] at hfr
  rw [hn0] at hcv
  have hng := run_neg false (Sc.rg m0 E0) (by omega)
  rw [show (!false) = true from rfl] at hng
  have HF := Lib.hid (And.intro F (And.intro hfr (And.intro hwn (And.intro hI hn1))))
  clear F0 e0 l0 u0 hn0 hn1 hr0 hfr hwn hI F
  generalize Sc.rg m0 E0 = r0 at *
  subst g
  have HQ : Hid (fw neg r0 = fw neg (Sc.rg m E)) := Lib.hid (by
    rw [← HF.out.2.2.2.2]
    exact Sc.near HF.out.1 neg d 0 (by omega) (by
      have := Sc.inx.mp HF.out.2.2.2.1
      rw [show (0 : Int) = ((0 : Nat) : Int) from rfl, Sc.wv_nat, Nat.pow_zero, Nat.mul_one] at this
      exact this))
  cases neg
  · go_enter Tryz.func82, Tryz.ntmps82
    go_wp2_with fail
    go_ret2
    exact ⟨⟨_, _, rfl, fun _ => HQ.out⟩, 0, rfl⟩
  · go_enter Tryz.func82, Tryz.ntmps82
    go_wp2_with fail
    go_ret2
    exact ⟨⟨_, _, rfl, fun _ => HQ.out⟩, 0, rfl⟩
set_option maxRecDepth 100000 in
set_option maxHeartbeats 12800000 in
theorem exact_q (neg : Bool) {m : Nat} {E : Int} (F : Sc.Fin m E) (d : Nat) (P : Int) (hd0 : 0 < d) (g52 : d < 4503599627370496) (g : -22 ≤ P) (g' : P < 0) (hI : Sc.In m E d P) (w : World) (hT : TabF w) :
    Calls Tryz.prog 82 #[.int .u64 d, .int .i64 P, .bool neg] w fun e w' => ExP (fw neg (Sc.rg m E)) e ∧ ∃ n, w' = w.drewN n := by
  have c0 := hT.info
  obtain ⟨A, cA, hAlt, hcel⟩ := hT.row
  have HCE := Lib.hid hcel
  clear hcel hT hAlt
  have t52 : ((d : Int) / 4503599627370496 != 0) = false := by simp; omega
  have hcv := run_cnv d
  rw [foi_eq] at hcv
  -- the whole number as a float
  obtain ⟨m0, E0, F0, e0, l0, u0⟩ := Sc.fin_int d hd0 (by omega)
  have hn0 : double.nearest false d 0 = fw false (Sc.rg m0 E0) := Sc.near F0 false d 0 (by omega) (by rw [← e0]; exact Sc.inx_self F0)
  have hr0 := Sc.rg_lt F0
  have hfr := Sc.near_frw neg d d 0 hd0 (by omega) rfl
  have hn1 : double.nearest neg d 0 = fw neg (Sc.rg m0 E0) := Sc.near F0 neg d 0 (by omega) (by rw [← e0]; exact Sc.inx_self F0)
  have hwn : Sc.Wn neg d (fw neg (Sc.rg m0 E0)) := Sc.wn_word F0 neg e0 l0 u0
  rw [hn1] at hfr
  rw [hn0] at hcv
  have hng := run_neg false (Sc.rg m0 E0) (by omega)
  rw [show (!false) = true from rfl] at hng
  have HF := Lib.hid (And.intro F (And.intro hfr (And.intro hwn (And.intro hI hn1))))
  clear F0 e0 l0 u0 hn0 hn1 hr0 hfr hwn hI F
  generalize Sc.rg m0 E0 = r0 at *
  obtain ⟨k, rfl⟩ : ∃ k : Nat, P = -(k : Int) := ⟨(-P).toNat, by omega⟩
  have cK := HCE.out k (by omega)
  have t0 : (-(k : Int) == 0) = false := by simp; omega
  have a1 := i64w (-(-(k : Int))) (by omega) (by omega)
  have a2 : -(-(k : Int)) = (k : Int) := by omega
  have hm := run_quo _ _ _ (Sc.div_in HF.out.1 HF.out.2.2.1 (k := k) (by omega) HF.out.2.2.2.1)
  cases neg
  all_goals
    clear HCE
    go_enter Tryz.func82, Tryz.ntmps82
    go_wp2_with fail
    go_ret2
    exact ⟨⟨_, _, rfl, fun _ => rfl⟩, 0, rfl⟩
set_option maxRecDepth 100000 in
set_option maxHeartbeats 12800000 in
theorem exact_lo (neg : Bool) {m : Nat} {E : Int} (F : Sc.Fin m E) (d : Nat) (P : Int) (hd0 : 0 < d) (g52 : d < 4503599627370496) (g : P < -22) (hI : Sc.In m E d P) (w : World) (hT : TabF w) :
    Calls Tryz.prog 82 #[.int .u64 d, .int .i64 P, .bool neg] w fun e w' => ExP (fw neg (Sc.rg m E)) e ∧ ∃ n, w' = w.drewN n := by
  have c0 := hT.info
  obtain ⟨A, cA, hAlt, hcel⟩ := hT.row
  have HCE := Lib.hid hcel
  clear hcel hT hAlt
  have t52 : ((d : Int) / 4503599627370496 != 0) = false := by simp; omega
  have hcv := run_cnv d
  rw [foi_eq] at hcv
  -- the whole number as a float
  obtain ⟨m0, E0, F0, e0, l0, u0⟩ := Sc.fin_int d hd0 (by omega)
  have hn0 : double.nearest false d 0 = fw false (Sc.rg m0 E0) := Sc.near F0 false d 0 (by omega) (by rw [← e0]; exact Sc.inx_self F0)
  have hr0 := Sc.rg_lt F0
  have hfr := Sc.near_frw neg d d 0 hd0 (by omega) rfl
  have hn1 : double.nearest neg d 0 = fw neg (Sc.rg m0 E0) := Sc.near F0 neg d 0 (by omega) (by rw [← e0]; exact Sc.inx_self F0)
  have hwn : Sc.Wn neg d (fw neg (Sc.rg m0 E0)) := Sc.wn_word F0 neg e0 l0 u0
  rw [hn1] at hfr
  rw [hn0] at hcv
  have hng := run_neg false (Sc.rg m0 E0) (by omega)
  rw [show (!false) = true from rfl] at hng
  have HF := Lib.hid (And.intro F (And.intro hfr (And.intro hwn (And.intro hI hn1))))
  clear F0 e0 l0 u0 hn0 hn1 hr0 hfr hwn hI F
  generalize Sc.rg m0 E0 = r0 at *
  have t0 : (P == 0) = false := by simp; omega
  cases neg
  all_goals
    clear HCE
    go_enter Tryz.func82, Tryz.ntmps82
    go_wp2_with fail
    go_ret2
    exact ⟨⟨_, _, rfl, fun h => (by cases h)⟩, 0, rfl⟩
set_option maxRecDepth 100000 in
set_option maxHeartbeats 12800000 in
theorem exact_hi (neg : Bool) {m : Nat} {E : Int} (F : Sc.Fin m E) (d : Nat) (P : Int) (hd0 : 0 < d) (g52 : d < 4503599627370496) (g : 37 < P) (hI : Sc.In m E d P) (w : World) (hT : TabF w) :
    Calls Tryz.prog 82 #[.int .u64 d, .int .i64 P, .bool neg] w fun e w' => ExP (fw neg (Sc.rg m E)) e ∧ ∃ n, w' = w.drewN n := by
  have c0 := hT.info
  obtain ⟨A, cA, hAlt, hcel⟩ := hT.row
  have HCE := Lib.hid hcel
  clear hcel hT hAlt
  have t52 : ((d : Int) / 4503599627370496 != 0) = false := by simp; omega
  have hcv := run_cnv d
  rw [foi_eq] at hcv
  -- the whole number as a float
  obtain ⟨m0, E0, F0, e0, l0, u0⟩ := Sc.fin_int d hd0 (by omega)
  have hn0 : double.nearest false d 0 = fw false (Sc.rg m0 E0) := Sc.near F0 false d 0 (by omega) (by rw [← e0]; exact Sc.inx_self F0)
  have hr0 := Sc.rg_lt F0
  have hfr := Sc.near_frw neg d d 0 hd0 (by omega) rfl
  have hn1 : double.nearest neg d 0 = fw neg (Sc.rg m0 E0) := Sc.near F0 neg d 0 (by omega) (by rw [← e0]; exact Sc.inx_self F0)
  have hwn : Sc.Wn neg d (fw neg (Sc.rg m0 E0)) := Sc.wn_word F0 neg e0 l0 u0
  rw [hn1] at hfr
  rw [hn0] at hcv
  have hng := run_neg false (Sc.rg m0 E0) (by omega)
  rw [show (!false) = true from rfl] at hng
  have HF := Lib.hid (And.intro F (And.intro hfr (And.intro hwn (And.intro hI hn1))))
  clear F0 e0 l0 u0 hn0 hn1 hr0 hfr hwn hI F
  generalize Sc.rg m0 E0 = r0 at *
  have t0 : (P == 0) = false := by simp; omega
  cases neg
  all_goals
    clear HCE
    go_enter Tryz.func82, Tryz.ntmps82
    go_wp2_with fail
    go_ret2
    exact ⟨⟨_, _, rfl, fun h => (by cases h)⟩, 0, rfl⟩

set_option maxHeartbeats 3200000 in
theorem exact_g (neg : Bool) (r : Nat) (d : Nat) (P : Int) (g52 : 4503599627370496 ≤ d) (w : World) (hT : TabF w) :
    Calls Tryz.prog 82 #[.int .u64 d, .int .i64 P, .bool neg] w fun e w' => ExP r e ∧ ∃ n, w' = w.drewN n := by
  have c0 := hT.info
  have t52 : ((d : Int) / 4503599627370496 != 0) = true := by simp; omega
  clear hT
  go_enter Tryz.func82, Tryz.ntmps82
  go_wp2_with fail
  go_ret2
  exact ⟨⟨_, _, rfl, fun h => (by cases h)⟩, 0, rfl⟩
end Go.Proofs.YtedllapajgcfeaaGreatDoor
