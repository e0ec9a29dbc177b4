/-
  tally.Text at any float64: walked.
-/
import Derived.Test.YtedllapajgcfeaaGreatDoorWf
import Derived.Test.YtedllapajgcfeaaGreatDoorTxt
import Derived.Test.YtedllapajgcfeaaGreatDoorOrd
namespace Go.Proofs.YtedllapajgcfeaaGreatDoor
set_option linter.unusedVariables false
set_option linter.unusedSimpArgs false
set_option exponentiation.threshold 5000
open Go.RowKit Go.Proofs.YtedllapajgcfeaaGreatDoorW.PrintWords

/-! ### signs -/
theorem xor63 (r : Nat) (h : r < 9223372036854775808) : r ^^^ 9223372036854775808 = 9223372036854775808 + r := by
  have e : (9223372036854775808 : Nat) = 2 ^ 63 := rfl
  rw [e] at h ⊢
  apply Nat.eq_of_testBit_eq
  intro i
  rw [Nat.testBit_xor]
  rcases Nat.lt_trichotomy i 63 with g | g | g
  · rw [Nat.testBit_two_pow_add_gt g, Nat.testBit_two_pow_of_ne (by omega), Bool.xor_false]
  · subst g
    rw [Nat.testBit_two_pow_add_eq, Nat.testBit_two_pow_self, Nat.testBit_lt_two_pow h]
    rfl
  · rw [Nat.testBit_two_pow_of_ne (by omega), Bool.xor_false]
    have h2 : r < 2 ^ i := Nat.lt_of_lt_of_le h (Nat.pow_le_pow_right (by omega) (by omega))
    have h3 : 2 ^ 63 + r < 2 ^ i := by
      have : 2 ^ 64 ≤ 2 ^ i := Nat.pow_le_pow_right (by omega) g
      omega
    rw [Nat.testBit_lt_two_pow h2, Nat.testBit_lt_two_pow h3]
def fw (s : Bool) (r : Nat) : Nat := Ieee.double.word s r
theorem fw_f (r : Nat) : fw false r = r := Fl.word_f r
theorem fw_t (r : Nat) : fw true r = 9223372036854775808 + r := Fl.word_t r
theorem neg_fw (s : Bool) (r : Nat) (h : r < 9223372036854775808) : Op.negFloat .f64 (fw s r) = fw (!s) r := by
  show fw s r ^^^ 9223372036854775808 = _
  cases s
  · rw [fw_f, xor63 r h]; exact (fw_t r).symm
  · rw [fw_t, ← xor63 r h, Nat.xor_assoc, Nat.xor_self, Nat.xor_zero]; exact (fw_f r).symm
theorem run_neg (s : Bool) (r : Nat) (h : r < 9223372036854775808) (w : World) : (Op.unary UnOp.neg (.float .f64 (fw s r))).run Tryz.prog w = .ok (.float .f64 (fw (!s) r)) w := by
  rw [← neg_fw s r h]
  rfl
theorem fw_lt (s : Bool) (r : Nat) (h : r < 9223372036854775808) : fw s r < 18446744073709551616 := by
  cases s
  · rw [fw_f]; omega
  · rw [fw_t]; omega
theorem ord_max (s : Bool) (r : Nat) (h : r < 9218868437227405312) : FloatKind.f64.format.order (fw s r) 9218868437227405311 = some .lt ∨ FloatKind.f64.format.order (fw s r) 9218868437227405311 = some .eq := by
  cases s
  · rw [fw_f]
    have := Fl.ord_pos r 9218868437227405311 h (by omega)
    rcases Nat.lt_or_ge r 9218868437227405311 with g | g
    · rw [if_pos g] at this; exact Or.inl this
    · rw [if_neg (by omega), if_pos (by omega)] at this; exact Or.inr this
  · left
    have e1 : Fl.ex (fw true r) < 2047 := by rw [fw_t]; unfold Fl.ex; omega
    have e3 : Fl.ex 9218868437227405311 < 2047 := by decide
    have s1 : Fl.sg (fw true r) = true := by rw [fw_t]; unfold Fl.sg; simp; omega
    have s3 : Fl.sg 9218868437227405311 = false := by decide
    have p : 0 < Fl.V 9218868437227405311 := by
      have := Fl.V_lt_iff.2 (show Fl.rung 0 < Fl.rung 9218868437227405311 by decide)
      omega
    show Ieee.double.order (fw true r) 9218868437227405311 = _
    rw [Fl.ord_fin _ _ e1 e3, s1, s3]
    congr 1
    rw [Int.compare_eq_lt]
    show -(_ : Int) < ((Fl.V 9218868437227405311 : Nat) : Int)
    omega
theorem nan_fw (s : Bool) (r : Nat) (h : r < 9218868437227405312) : nanB (fw s r) = false := by
  have : Fl.ex (fw s r) ≠ 2047 := by
    cases s
    · rw [fw_f]; unfold Fl.ex; omega
    · rw [fw_t]; unfold Fl.ex; omega
  unfold nanB
  simp [this]
theorem isInf_le (x : Nat) (h1 : FloatKind.f64.format.order x 9218868437227405311 = some .lt ∨ FloatKind.f64.format.order x 9218868437227405311 = some .eq) (w : World) : Calls Tryz.prog 7 #[.float .f64 x, .int .i64 1] w fun e w' => e = .returned (.bool false) ∧ w = w' := by
  rcases h1 with h1 | h1
  all_goals
    go_enter Tryz.func7, Tryz.ntmps7
    go_wp2
    go_ret
    exact ⟨rfl, rfl⟩
theorem isInf_mle (x y : Nat) (hn : ∀ w, (Op.unary UnOp.neg (.float .f64 x)).run Tryz.prog w = .ok (.float .f64 y) w) (h1 : FloatKind.f64.format.order y 9218868437227405311 = some .lt ∨ FloatKind.f64.format.order y 9218868437227405311 = some .eq) (w : World) : Calls Tryz.prog 7 #[.float .f64 x, .int .i64 (-1)] w fun e w' => e = .returned (.bool false) ∧ w = w' := by
  rcases h1 with h1 | h1
  all_goals
    go_enter Tryz.func7, Tryz.ntmps7
    go_wp2
    go_ret
    exact ⟨rfl, rfl⟩
theorem isInf_gt (x : Nat) (h1 : FloatKind.f64.format.order x 9218868437227405311 = some .gt) (w : World) : Calls Tryz.prog 7 #[.float .f64 x, .int .i64 1] w fun e w' => e = .returned (.bool true) ∧ w = w' := by
  go_enter Tryz.func7, Tryz.ntmps7
  go_wp2
  go_ret
  exact ⟨rfl, rfl⟩
theorem isInf_mgt (x y : Nat) (hn : ∀ w, (Op.unary UnOp.neg (.float .f64 x)).run Tryz.prog w = .ok (.float .f64 y) w) (h1 : FloatKind.f64.format.order y 9218868437227405311 = some .gt) (w : World) : Calls Tryz.prog 7 #[.float .f64 x, .int .i64 (-1)] w fun e w' => e = .returned (.bool true) ∧ w = w' := by
  go_enter Tryz.func7, Tryz.ntmps7
  go_wp2
  go_ret
  exact ⟨rfl, rfl⟩

/-! ### FormatFloat, Text -/
/-- ftoa64 of a number appends these bytes. -/
def FtoaIs (x : Nat) (out : List Int) (w : World) : Prop := ∀ (v : Value) (base : Nat) (w0 z : World), Below w.heap.size w z → z.ownsRow base 5 1 v 0 (nums .u8 []) → Below base w0 z → base ≤ z.heap.size → Calls Tryz.prog 48 #[v, .float .f64 x, .int .u8 103, .int .i64 (-1)] z fun e w' => ∃ v', e = .returned v' ∧ w'.ownsRow base 5 1 v' out.length (nums .u8 out) ∧ Below base w0 w'
set_option maxRecDepth 100000 in
set_option maxHeartbeats 3200000 in
theorem format_of (x : Nat) (out : List Int) (s : ByteArray) (hs : strOfNums out = s) (w : World) (HF : FtoaIs x out w) : Calls Tryz.prog 32 #[.float .f64 x, .int .u8 103, .int .i64 (-1), .int .i64 64] w fun e w' => e = .returned (.string s) ∧ Below w.heap.size w w' := by
  have m1 : max (3 : Int) 24 = 24 := by decide
  have hmk := make_24
  have HF := Lib.hid HF
  have HS := Lib.hid hs
  clear hs
  go_enter Tryz.func32, Tryz.ntmps32
  go_wp2_with fail
  have hB : Below w.heap.size w (w.alloc (.cells (madeCells #[.int .u8 0] 24) 5)) := (Below.refl _ _).alloc (Nat.le_refl _) _
  refine (HF.out _ w.heap.size w _ hB (own_24 w) hB hB.size).mono ?_
  rintro e w1 ⟨v', rfl, HO, HB⟩
  have hc := own_string (P := Tryz.prog) Tryz.underlying66 Tryz.underlying5 Tryz.underlying9 HO
  rw [HS.out] at hc
  have HB := Lib.hid HB
  clear hB HO
  go_wp2_with fail
  go_ret
  exact ⟨rfl, HB.out⟩
set_option maxHeartbeats 3200000 in
theorem strfmt_of (x : Nat) (out : List Int) (s : ByteArray) (hs : strOfNums out = s) (w : World) (HF : FtoaIs x out w) : Calls Tryz.prog 15 #[.float .f64 x, .int .u8 103, .int .i64 (-1), .int .i64 64] w fun e w' => e = .returned (.string s) ∧ Below w.heap.size w w' := by
  have HF := Lib.hid (format_of x out s hs w HF)
  clear hs
  go_enter Tryz.func15, Tryz.ntmps15
  go_wp2_with fail
  refine HF.out.mono ?_
  rintro e w1 ⟨rfl, HB⟩
  have HB := Lib.hid HB
  go_wp2_with fail
  go_ret
  exact ⟨rfl, HB.out⟩
set_option maxHeartbeats 3200000 in
theorem text_of (sg : Bool) (r : Nat) (hr : r < 9218868437227405312) (out : List Int) (s : ByteArray) (hs : strOfNums out = s) (w : World) (HF : FtoaIs (fw sg r) out w) : Calls Tryz.prog 5 #[.float .f64 (fw sg r)] w fun e w' => e = .returned (.string s) ∧ Below w.heap.size w w' := by
  have HF := Lib.hid (strfmt_of (fw sg r) out s hs w HF)
  have HN := Lib.hid (isNaN_any (fw sg r))
  rw [nan_fw sg r hr] at HN
  have HI := Lib.hid (isInf_le (fw sg r) (ord_max sg r hr))
  have HM := Lib.hid (isInf_mle (fw sg r) (fw (!sg) r) (fun w => run_neg sg r (by omega) w) (ord_max (!sg) r hr))
  clear hs
  generalize fw sg r = x at *
  go_enter Tryz.func5, Tryz.ntmps5
  go_wp2_with fail
  refine (HN.out _).mono ?_
  rintro e w1 ⟨rfl, rfl⟩
  go_wp2_with fail
  refine (HI.out _).mono ?_
  rintro e w1 ⟨rfl, rfl⟩
  go_wp2_with fail
  refine (HM.out _).mono ?_
  rintro e w1 ⟨rfl, rfl⟩
  go_wp2_with fail
  refine HF.out.mono ?_
  rintro e w1 ⟨rfl, HB⟩
  have HB := Lib.hid HB
  go_wp2_with fail
  go_ret
  exact ⟨rfl, HB.out⟩
set_option maxHeartbeats 1600000 in
theorem text_nan (x : Nat) (hx : nanB x = true) (w : World) : Calls Tryz.prog 5 #[.float .f64 x] w fun e w' => e = .returned (.string ⟨#[110, 97, 110]⟩) ∧ w = w' := by
  have HN := Lib.hid (isNaN_any x)
  rw [hx] at HN
  go_enter Tryz.func5, Tryz.ntmps5
  go_wp2_with fail
  refine (HN.out _).mono ?_
  rintro e w1 ⟨rfl, rfl⟩
  go_wp2_with fail
  go_ret
  exact ⟨rfl, rfl⟩
set_option maxHeartbeats 1600000 in
theorem text_inf (w : World) : Calls Tryz.prog 5 #[.float .f64 9218868437227405312] w fun e w' => e = .returned (.string ⟨#[105, 110, 102]⟩) ∧ w = w' := by
  have HN := Lib.hid (isNaN_any 9218868437227405312)
  rw [show nanB 9218868437227405312 = false by decide +kernel] at HN
  have HI := Lib.hid (isInf_gt 9218868437227405312 (by decide +kernel))
  go_enter Tryz.func5, Tryz.ntmps5
  go_wp2_with fail
  refine (HN.out _).mono ?_
  rintro e w1 ⟨rfl, rfl⟩
  go_wp2_with fail
  refine (HI.out _).mono ?_
  rintro e w1 ⟨rfl, rfl⟩
  go_wp2_with fail
  go_ret
  exact ⟨rfl, rfl⟩
set_option maxHeartbeats 1600000 in
theorem text_minf (w : World) : Calls Tryz.prog 5 #[.float .f64 18442240474082181120] w fun e w' => e = .returned (.string ⟨#[45, 105, 110, 102]⟩) ∧ w = w' := by
  have HN := Lib.hid (isNaN_any 18442240474082181120)
  rw [show nanB 18442240474082181120 = false by decide +kernel] at HN
  have HI := Lib.hid (isInf_le 18442240474082181120 (Or.inl (by decide +kernel)))
  have HM := Lib.hid (isInf_mgt 18442240474082181120 9218868437227405312 (fun w => rfl) (by decide +kernel))
  go_enter Tryz.func5, Tryz.ntmps5
  go_wp2_with fail
  refine (HN.out _).mono ?_
  rintro e w1 ⟨rfl, rfl⟩
  go_wp2_with fail
  refine (HI.out _).mono ?_
  rintro e w1 ⟨rfl, rfl⟩
  go_wp2_with fail
  refine (HM.out _).mono ?_
  rintro e w1 ⟨rfl, rfl⟩
  go_wp2_with fail
  go_ret
  exact ⟨rfl, rfl⟩
/-! ### zeros -/
set_option maxRecDepth 100000 in
set_option maxHeartbeats 6400000 in
theorem efg_zero (neg : Bool) (v : Value) (base : Nat) (w0 w : World) (HO : w.ownsRow base 5 1 v 0 (nums .u8 [])) (HB : Below base w0 w) (hbase : base ≤ w.heap.size) : Calls Tryz.prog 60 #[v, .bool neg, .slice none 0 0, .int .i64 0, .int .i64 0, .int .i64 (-1), .int .u8 103, .bool true] w fun e w' => ∃ v', e = .returned v' ∧ w'.ownsRow base 5 1 v' (sgT neg ++ [48]).length (nums .u8 (sgT neg ++ [48])) ∧ Below base w0 w' := by
  replace HO := Lib.hid HO
  replace HB := Lib.hid HB
  replace hbase := Lib.hid hbase
  have m0 : max (0 : Int) 0 = 0 := by decide
  have m1 : max (1 : Int) 0 = 1 := by decide
  have m2 : min (1 : Int) 1 = 1 := by decide
  have m3 : max (-1 : Int) 0 = 0 := by decide
  cases neg
  · go_enter Tryz.func60, Tryz.ntmps60
    go_wp2_with (at_builtin; first | (refine print_append_num (w0 := w0) base rfl _ _ _ 5 .u8 1 rfl Tryz.underlying66 (by kernel_rfl) (by omega) v [] 48 rfl rfl (by exact HO.out) (by exact HB.out) hbase.out (by decide) ?_; intro v2 w2 HO2 HB2 hs2 hg2; replace HO2 := Lib.hid HO2; replace HB2 := Lib.hid HB2; clear hs2 hg2))
    go_ret
    exact ⟨_, rfl, HO2.out, HB2.out⟩
  · go_enter Tryz.func60, Tryz.ntmps60
    go_wp2_with (at_builtin; first | (refine print_append_num (w0 := w0) base rfl _ _ _ 5 .u8 1 rfl Tryz.underlying66 (by kernel_rfl) (by omega) v [] 45 rfl rfl (by exact HO.out) (by exact HB.out) hbase.out (by decide) ?_; intro v1 w1 HO1 HB1 hs1 hg1; have hb1 := Lib.hid (Nat.le_trans hbase.out hs1.size); replace HO1 := Lib.hid HO1; replace HB1 := Lib.hid HB1; clear hs1 hg1 HO HB hbase) | (refine print_append_num (w0 := w0) base rfl _ _ _ 5 .u8 1 rfl Tryz.underlying66 (by kernel_rfl) (by omega) _ ([] ++ [45]) 48 rfl rfl (by exact HO1.out) (by exact HB1.out) hb1.out (by decide) ?_; intro v2 w2 HO2 HB2 hs2 hg2; replace HO2 := Lib.hid HO2; replace HB2 := Lib.hid HB2; clear hs2 hg2 HO1 HB1 hb1))
    go_ret
    exact ⟨_, rfl, HO2.out, HB2.out⟩
set_option maxRecDepth 100000 in
set_option maxHeartbeats 6400000 in
theorem ftoa_zero (neg : Bool) (w : World) : FtoaIs (fw neg 0) (sgT neg ++ [48]) w := by
  intro v base w0 z _ HO HB hbase
  have HE := Lib.hid (fun n => efg_zero neg v base w0 (z.drewN n) HO (HB.trans (bl_drewN (Below.refl base z) n)) hbase)
  clear HO HB hbase
  cases neg
  · have b1 : bits .and .i64 0 2047 = 0 := by decide +kernel
    have b2 : bits .and .u64 0 4503599627370495 = 0 := by decide +kernel
    rw [fw_f]
    go_enter Tryz.func48, Tryz.ntmps48
    go_wp2_with fail
    go_quiet (fail)
    go_wp2_with fail
    refine (HE.out _).mono ?_
    rintro e w5 ⟨v', rfl, HO5, HB5⟩
    have HO5 := Lib.hid HO5
    have HB5 := Lib.hid HB5
    go_wp2_with fail
    go_ret
    exact ⟨v', rfl, HO5.out, HB5.out⟩
  · have b1 : bits .and .i64 2048 2047 = 0 := by decide +kernel
    have b2 : bits .and .u64 9223372036854775808 4503599627370495 = 0 := by decide +kernel
    rw [fw_t]
    go_enter Tryz.func48, Tryz.ntmps48
    go_wp2_with fail
    go_quiet (fail)
    go_wp2_with fail
    refine (HE.out _).mono ?_
    rintro e w5 ⟨v', rfl, HO5, HB5⟩
    have HO5 := Lib.hid HO5
    have HB5 := Lib.hid HB5
    go_wp2_with fail
    go_ret
    exact ⟨v', rfl, HO5.out, HB5.out⟩
/-! ### any other number -/
theorem dig_one {d n a1 k1 a2 k2 : Nat} (h1 : Dig d n a1 k1) (h2 : Dig d n a2 k2) : a1 = a2 ∧ k1 = k2 := by
  have go : ∀ {a1 k1 a2 k2 : Nat}, Dig d n a1 k1 → Dig d n a2 k2 → k1 < k2 → False := by
    intro a1 k1 a2 k2 h1 h2 hk
    have e := h1.eq.symm.trans h2.eq
    have g1 := h1.kn
    have g2 := h2.kn
    rw [show n - k1 = (k2 - k1 - 1) + 1 + (n - k2) from by omega, Nat.pow_add, ← Nat.mul_assoc] at e
    have := Nat.eq_of_mul_eq_mul_right (Nat.pow_pos (by omega)) e
    rw [Nat.pow_succ, ← Nat.mul_assoc] at this
    have := h2.nz
    omega
  have hk : k1 = k2 := by
    rcases Nat.lt_trichotomy k1 k2 with g | g | g
    · exact (go h1 h2 g).elim
    · exact g
    · exact (go h2 h1 g).elim
  subst hk
  exact ⟨Nat.eq_of_mul_eq_mul_right (Nat.pow_pos (by omega)) (h1.eq.symm.trans h2.eq), rfl⟩
theorem dig_ex : ∀ (n d : Nat), 10 ^ (n - 1) ≤ d → d < 10 ^ n → 1 ≤ n → ∃ a k, Dig d n a k := by
  intro n
  induction n with
  | zero => intro d _ _ h; omega
  | succ n ih =>
    intro d h1 h2 _
    by_cases hz : d % 10 = 0
    · have hn : 1 ≤ n := by
        rcases Nat.eq_zero_or_pos n with z | z
        · subst z; simp at h1 h2; omega
        · exact z
      have e1 : 10 ^ (n + 1 - 1) = 10 ^ (n - 1) * 10 := by rw [← Nat.pow_succ]; congr 1; omega
      have e2 : 10 ^ (n + 1) = 10 ^ n * 10 := Nat.pow_succ ..
      obtain ⟨a, k, D⟩ := ih (d / 10) (by omega) (by omega) hn
      refine ⟨a, k, ⟨D.k1, by have := D.kn; omega, ?_, D.nz, D.lt, D.ge⟩⟩
      have hk := D.kn
      have e3 := D.eq
      rw [show n + 1 - k = (n - k) + 1 from by omega, Nat.pow_succ, ← Nat.mul_assoc, ← e3]
      omega
    · exact ⟨d, n + 1, ⟨by omega, Nat.le_refl _, by rw [Nat.sub_self, Nat.pow_zero, Nat.mul_one], hz, h2, h1⟩⟩
/-- A float64's digits. -/
structure Sd (m : Nat) (E : Int) (a k : Nat) (dp : Int) : Prop where
  dig : Dig (Sc.short m (64 - Lib.bitLen m) E).1 (Lib.nDigits (Sc.short m (64 - Lib.bitLen m) E).1) a k
  dp : dp = (Lib.nDigits (Sc.short m (64 - Lib.bitLen m) E).1 : Int) + (Sc.short m (64 - Lib.bitLen m) E).2
theorem sd_ex {m : Nat} {E : Int} (F : Sc.Fin m E) : ∃ a k dp, Sd m E a k dp := by
  obtain ⟨l1, l2, Z⟩ := len_of F.pos F.lt
  have OK := Sc.short_ok F Z
  obtain ⟨a, k, D⟩ := dig_ex _ _ (nd_ge _ OK.pos) (Lib.lt_pow_nDigits _) (Lib.nDigits_pos _)
  exact ⟨a, k, _, D, rfl⟩
theorem ftoa_fin (neg : Bool) {m : Nat} {E : Int} (F : Sc.Fin m E) {a k : Nat} {dp : Int} (S : Sd m E a k dp) (w : World) (hT : Tb w) (hP : TabP w) : FtoaIs (fw neg (Sc.rg m E)) (txt neg (dsL a k) dp) w := by
  intro v base w0 z hz HO HB hbase
  have rl := Sc.rg_lt F
  have f1 := F.lo
  have f2 := F.hi
  have f3 := F.lt
  have f4 := F.sub
  have eb : fw neg (Sc.rg m E) = (if neg then 9223372036854775808 else 0) + Sc.rg m E := by
    cases neg
    · rw [fw_f]; simp
    · rw [fw_t]; simp
  have er : Sc.rg m E = (E + 1074).toNat * 4503599627370496 + m := rfl
  have hm63 : fw neg (Sc.rg m E) % 9223372036854775808 = Sc.rg m E := by rw [eb]; split <;> omega
  have h52 : fw neg (Sc.rg m E) % 4503599627370496 = Sc.rg m E % 4503599627370496 := by rw [eb]; split <;> omega
  have hq : fw neg (Sc.rg m E) / 4503599627370496 % 2048 = Sc.rg m E / 4503599627370496 := by rw [eb]; split <;> omega
  have hn : decide (fw neg (Sc.rg m E) / 9223372036854775808 ≠ 0) = neg := by
    rw [eb]
    cases neg
    · first | (simp; done) | (simp; omega)
    · first | (simp; done) | (simp; omega)
  refine (ftoa_core (fw neg (Sc.rg m E)) neg (Sc.rg m E / 4503599627370496) m E F ?_ (fw_lt neg _ (by omega)) hq hn v base w0 z HO HB hbase (hT.below hz) (hP.below hz)).mono ?_
  · rw [h52]
    rcases Nat.lt_or_ge m 4503599627370496 with g | g
    · have hE := f4 g
      left
      omega
    · right
      omega
  · rintro e w' ⟨v', a', k', dp', rfl, h1, h2, h3, h4⟩
    obtain ⟨rfl, rfl⟩ := dig_one h3 S.dig
    have : dp' = dp := h4.trans S.dp.symm
    subst this
    exact ⟨v', rfl, h1, h2⟩
end Go.Proofs.YtedllapajgcfeaaGreatDoor
