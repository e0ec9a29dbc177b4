/-
  tally.Text at -0, 7, 1e300, NaN and the infinities: walked.
-/
import Derived.Test.YtedllapajgcfeaaDoorEfg
import Derived.Test.YtedllapajgcfeaaDoorTxt
namespace Go.Proofs.YtedllapajgcfeaaDoor
set_option linter.unusedVariables false
open Go.RowKit Go.Proofs.YtedllapajgcfeaaDoorW.PrintWords

set_option maxRecDepth 100000 in
set_option maxHeartbeats 6400000 in
theorem ftoa_Mz (v : Value) (base : Nat) (w0 w : World) (HO : w.ownsRow base 5 1 v 0 (nums .u8 [])) (HB : Below base w0 w) (hbase : base ≤ w.heap.size) : Calls Tryd.prog 52 #[v, .float .f64 9223372036854775808, .int .u8 103, .int .i64 (-1)] w fun e w' => ∃ v', e = .returned v' ∧ w'.ownsRow base 5 1 v' 2 (nums .u8 [45, 48]) ∧ Below base w0 w' := by
  have b1 : bits .and .i64 2048 2047 = 0 := by decide +kernel
  have b2 : bits .and .u64 9223372036854775808 4503599627370495 = 0 := by decide +kernel
  have HE := Lib.hid (fun n => efg_Mz v base w0 (w.drewN n) HO (HB.trans (bl_drewN (Below.refl base w) n)) hbase)
  clear HO HB hbase
  go_enter Tryd.func52, Tryd.ntmps52
  go_wp2_with fail
  go_quiet (fail)
  go_wp2_with fail
  refine (HE.out _).mono ?_
  rintro e w5 ⟨v', rfl, HO5, HB5⟩
  have HO5 := Lib.hid HO5
  have HB5 := Lib.hid HB5
  go_wp2_with fail
  go_ret
  exact ⟨v', rfl, HO5.out, HB5.out⟩
/-- ftoa64 of a number appends these bytes. -/
def FtoaIs (x : Nat) (out : List Int) (w : World) : Prop := ∀ (v : Value) (base : Nat) (w0 z : World), Below w.heap.size w z → z.ownsRow base 5 1 v 0 (nums .u8 []) → Below base w0 z → base ≤ z.heap.size → Calls Tryd.prog 52 #[v, .float .f64 x, .int .u8 103, .int .i64 (-1)] z fun e w' => ∃ v', e = .returned v' ∧ w'.ownsRow base 5 1 v' out.length (nums .u8 out) ∧ Below base w0 w'
set_option maxRecDepth 100000 in
set_option maxHeartbeats 3200000 in
theorem format_of (x : Nat) (out : List Int) (s : ByteArray) (hs : strOfNums out = s) (w : World) (HF : FtoaIs x out w) : Calls Tryd.prog 40 #[.float .f64 x, .int .u8 103, .int .i64 (-1), .int .i64 64] w fun e w' => e = .returned (.string s) ∧ Below w.heap.size w w' := by
  have m1 : max (3 : Int) 24 = 24 := by decide
  have hmk := make_24
  have HF := Lib.hid HF
  have HS := Lib.hid hs
  clear hs
  go_enter Tryd.func40, Tryd.ntmps40
  go_wp2_with fail
  have hB : Below w.heap.size w (w.alloc (.cells (madeCells #[.int .u8 0] 24) 5)) := (Below.refl _ _).alloc (Nat.le_refl _) _
  refine (HF.out _ w.heap.size w _ hB (own_24 w) hB hB.size).mono ?_
  rintro e w1 ⟨v', rfl, HO, HB⟩
  have hc := own_string (P := Tryd.prog) Tryd.underlying68 Tryd.underlying5 Tryd.underlying9 HO
  rw [HS.out] at hc
  have HB := Lib.hid HB
  clear hB HO
  go_wp2_with fail
  go_ret
  exact ⟨rfl, HB.out⟩
set_option maxHeartbeats 3200000 in
theorem strfmt_of (x : Nat) (out : List Int) (s : ByteArray) (hs : strOfNums out = s) (w : World) (HF : FtoaIs x out w) : Calls Tryd.prog 33 #[.float .f64 x, .int .u8 103, .int .i64 (-1), .int .i64 64] w fun e w' => e = .returned (.string s) ∧ Below w.heap.size w w' := by
  have HF := Lib.hid (format_of x out s hs w HF)
  clear hs
  go_enter Tryd.func33, Tryd.ntmps33
  go_wp2_with fail
  refine HF.out.mono ?_
  rintro e w1 ⟨rfl, HB⟩
  have HB := Lib.hid HB
  go_wp2_with fail
  go_ret
  exact ⟨rfl, HB.out⟩
theorem isInf_1 (x : Nat) (h1 : FloatKind.f64.format.order x 9218868437227405311 = some .lt) (w : World) : Calls Tryd.prog 11 #[.float .f64 x, .int .i64 1] w fun e w' => e = .returned (.bool false) ∧ w = w' := by
  go_enter Tryd.func11, Tryd.ntmps11
  go_wp2
  go_ret
  exact ⟨rfl, rfl⟩
theorem isInf_1g (x : Nat) (h1 : FloatKind.f64.format.order x 9218868437227405311 = some .gt) (w : World) : Calls Tryd.prog 11 #[.float .f64 x, .int .i64 1] w fun e w' => e = .returned (.bool true) ∧ w = w' := by
  go_enter Tryd.func11, Tryd.ntmps11
  go_wp2
  go_ret
  exact ⟨rfl, rfl⟩
theorem isInf_m (x y : Nat) (hn : ∀ w, (Op.unary UnOp.neg (.float .f64 x)).run Tryd.prog w = .ok (.float .f64 y) w) (h1 : FloatKind.f64.format.order y 9218868437227405311 = some .lt) (w : World) : Calls Tryd.prog 11 #[.float .f64 x, .int .i64 (-1)] w fun e w' => e = .returned (.bool false) ∧ w = w' := by
  go_enter Tryd.func11, Tryd.ntmps11
  go_wp2
  go_ret
  exact ⟨rfl, rfl⟩
theorem isInf_mg (x y : Nat) (hn : ∀ w, (Op.unary UnOp.neg (.float .f64 x)).run Tryd.prog w = .ok (.float .f64 y) w) (h1 : FloatKind.f64.format.order y 9218868437227405311 = some .gt) (w : World) : Calls Tryd.prog 11 #[.float .f64 x, .int .i64 (-1)] w fun e w' => e = .returned (.bool true) ∧ w = w' := by
  go_enter Tryd.func11, Tryd.ntmps11
  go_wp2
  go_ret
  exact ⟨rfl, rfl⟩
set_option maxHeartbeats 3200000 in
theorem text_of (x y : Nat) (out : List Int) (s : ByteArray) (hs : strOfNums out = s) (hx : nanB x = false) (h1 : FloatKind.f64.format.order x 9218868437227405311 = some .lt) (hn : ∀ w, (Op.unary UnOp.neg (.float .f64 x)).run Tryd.prog w = .ok (.float .f64 y) w) (h2 : FloatKind.f64.format.order y 9218868437227405311 = some .lt) (w : World) (HF : FtoaIs x out w) : Calls Tryd.prog 21 #[.float .f64 x] w fun e w' => e = .returned (.string s) ∧ Below w.heap.size w w' := by
  have HF := Lib.hid (strfmt_of x out s hs w HF)
  have HN := Lib.hid (isNaN_any x)
  rw [hx] at HN
  have HI := Lib.hid (isInf_1 x h1)
  have HM := Lib.hid (isInf_m x y hn h2)
  clear hs h1 h2 hn hx
  go_enter Tryd.func21, Tryd.ntmps21
  go_wp2_with fail
  refine (HN.out _).mono ?_
  rintro e w1 ⟨rfl, rfl⟩
  go_wp2_with fail
  refine (HI.out _).mono ?_
  rintro e w1 ⟨rfl, rfl⟩
  go_wp2_with fail
  refine (HM.out _).mono ?_
  rintro e w1 ⟨rfl, rfl⟩
  go_wp2_with fail
  refine HF.out.mono ?_
  rintro e w1 ⟨rfl, HB⟩
  have HB := Lib.hid HB
  go_wp2_with fail
  go_ret
  exact ⟨rfl, HB.out⟩
theorem text_M (w : World) : Calls Tryd.prog 21 #[.float .f64 9223372036854775808] w fun e w' => e = .returned (.string ⟨#[45, 48]⟩) ∧ Below w.heap.size w w' :=
  text_of 9223372036854775808 0 [45, 48] ⟨#[45, 48]⟩ rfl (by decide +kernel) (by decide +kernel) (fun w => rfl) (by decide +kernel) w fun v base w0 z _ h2 h3 h4 => ftoa_Mz v base w0 z h2 h3 h4
theorem text_7 (w : World) (hT : Tb w) (hP : PowSv w) : Calls Tryd.prog 21 #[.float .f64 4619567317775286272] w fun e w' => e = .returned (.string ⟨#[55]⟩) ∧ Below w.heap.size w w' :=
  text_of 4619567317775286272 13842939354630062080 [55] ⟨#[55]⟩ rfl (by decide +kernel) (by decide +kernel) (fun w => rfl) (by decide +kernel) w fun v base w0 z h1 h2 h3 h4 => ftoa_Sv [55] efg_Sv v base w0 z h2 h3 h4 (hT.below h1) (hP.below h1)
theorem text_300 (w : World) (hT : Tb w) (hP : PowTh w) : Calls Tryd.prog 21 #[.float .f64 9094988921128908188] w fun e w' => e = .returned (.string ⟨#[49, 101, 43, 51, 48, 48]⟩) ∧ Below w.heap.size w w' :=
  text_of 9094988921128908188 18318360957983683996 [49, 101, 43, 51, 48, 48] ⟨#[49, 101, 43, 51, 48, 48]⟩ rfl (by decide +kernel) (by decide +kernel) (fun w => rfl) (by decide +kernel) w fun v base w0 z h1 h2 h3 h4 => ftoa_Th [49, 101, 43, 51, 48, 48] efg_Th v base w0 z h2 h3 h4 (hT.below h1) (hP.below h1)
set_option maxHeartbeats 1600000 in
theorem text_N (w : World) : Calls Tryd.prog 21 #[.float .f64 9221120237041090561] w fun e w' => e = .returned (.string ⟨#[110, 97, 110]⟩) ∧ w = w' := by
  have HN := Lib.hid (isNaN_any 9221120237041090561)
  rw [show nanB 9221120237041090561 = true by decide +kernel] at HN
  go_enter Tryd.func21, Tryd.ntmps21
  go_wp2_with fail
  refine (HN.out _).mono ?_
  rintro e w1 ⟨rfl, rfl⟩
  go_wp2_with fail
  go_ret
  exact ⟨rfl, rfl⟩
set_option maxHeartbeats 1600000 in
theorem text_I (w : World) : Calls Tryd.prog 21 #[.float .f64 9218868437227405312] w fun e w' => e = .returned (.string ⟨#[105, 110, 102]⟩) ∧ w = w' := by
  have HN := Lib.hid (isNaN_any 9218868437227405312)
  rw [show nanB 9218868437227405312 = false by decide +kernel] at HN
  have HI := Lib.hid (isInf_1g 9218868437227405312 (by decide +kernel))
  go_enter Tryd.func21, Tryd.ntmps21
  go_wp2_with fail
  refine (HN.out _).mono ?_
  rintro e w1 ⟨rfl, rfl⟩
  go_wp2_with fail
  refine (HI.out _).mono ?_
  rintro e w1 ⟨rfl, rfl⟩
  go_wp2_with fail
  go_ret
  exact ⟨rfl, rfl⟩
set_option maxHeartbeats 1600000 in
theorem text_D (w : World) : Calls Tryd.prog 21 #[.float .f64 18442240474082181120] w fun e w' => e = .returned (.string ⟨#[45, 105, 110, 102]⟩) ∧ w = w' := by
  have HN := Lib.hid (isNaN_any 18442240474082181120)
  rw [show nanB 18442240474082181120 = false by decide +kernel] at HN
  have HI := Lib.hid (isInf_1 18442240474082181120 (by decide +kernel))
  have HM := Lib.hid (isInf_mg 18442240474082181120 9218868437227405312 (fun w => rfl) (by decide +kernel))
  go_enter Tryd.func21, Tryd.ntmps21
  go_wp2_with fail
  refine (HN.out _).mono ?_
  rintro e w1 ⟨rfl, rfl⟩
  go_wp2_with fail
  refine (HI.out _).mono ?_
  rintro e w1 ⟨rfl, rfl⟩
  go_wp2_with fail
  refine (HM.out _).mono ?_
  rintro e w1 ⟨rfl, rfl⟩
  go_wp2_with fail
  go_ret
  exact ⟨rfl, rfl⟩
end Go.Proofs.YtedllapajgcfeaaDoor
