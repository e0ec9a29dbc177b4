/-
  Law 05's TallyKnown: walked.
-/
import Derived.Test.YtedllapajgcfeaaDoorSam
import Derived.Test.YtedllapajgcfeaaDoorAwk5
import Derived.Test.YtedllapajgcfeaaDoorTx2
namespace Go.Proofs.YtedllapajgcfeaaDoor
set_option linter.unusedVariables false
set_option linter.unusedSimpArgs false
open Go.RowKit Go.Proofs.YtedllapajgcfeaaDoorW.PrintWords

/-- All that the examples read of the tables. -/
def Tk (w : World) : Prop := Tb w ∧ PowSv w ∧ PowTh w
theorem Tk.below {w w' : World} (h : Tk w) (hb : Below w.heap.size w w') : Tk w' := ⟨h.1.below hb, h.2.1.below hb, h.2.2.below hb⟩
set_option maxHeartbeats 1600000 in
theorem rank_Z (w : World) : Calls Tryd.prog 30 #[.float .f64 0] w fun e w' => e = .returned (.int .u64 9223372036854775809) ∧ w = w' := by
  have b1 : bits .and .u64 0 2047 = 0 := by decide +kernel
  go_enter Tryd.func30, Tryd.ntmps30
  go_wp2_with fail
  go_ret
  exact ⟨rfl, rfl⟩
set_option maxHeartbeats 1600000 in
theorem rcmp_Z (w : World) : Calls Tryd.prog 14 #[.float .f64 0, .float .f64 0] w fun e w' => e = .returned (.int .i64 0) ∧ w = w' := by
  have H := Lib.hid rank_Z
  go_enter Tryd.func14, Tryd.ntmps14
  go_wp2_with (go_at_call 30; refine (H.out _).mono ?_; rintro e w' ⟨rfl, rfl⟩)
  go_ret
  exact ⟨rfl, rfl⟩
set_option maxHeartbeats 1600000 in
theorem alike_Z (w : World) : Calls Tryd.prog 16 #[.float .f64 0, .float .f64 0] w fun e w' => e = .returned (.bool true) ∧ w = w' := by
  have H := Lib.hid rcmp_Z
  go_enter Tryd.func16, Tryd.ntmps16
  go_wp2_with (go_at_call 14; refine (H.out _).mono ?_; rintro e w' ⟨rfl, rfl⟩)
  go_ret
  exact ⟨rfl, rfl⟩
set_option maxRecDepth 100000 in
set_option maxHeartbeats 25600000 in
theorem known5_any (w : World) (hT : Tk w) : Calls Tryd.prog 6 #[] w fun e w' => e = .returned (.bool true) ∧ Below w.heap.size w w' := by
  have HT := Lib.hid hT
  clear hT
  have HC1 : Hid (∀ z, Calls Tryd.prog 12 #[.float .f64 9221120237041090561, .float .f64 18442240474082181120] z fun e w' => e = .returned (.int .i64 (-1)) ∧ Below z.heap.size z w') := Lib.hid fun z => by
    have hc := compare_any 9221120237041090561 18442240474082181120 (by decide) (by decide) z
    have h0 : cp 9221120237041090561 18442240474082181120 = -1 := by decide +kernel
    rw [h0] at hc
    exact hc
  have HC2 : Hid (∀ z, Calls Tryd.prog 12 #[.float .f64 9221120237041090561, .float .f64 9221120237041090561] z fun e w' => e = .returned (.int .i64 (0)) ∧ Below z.heap.size z w') := Lib.hid fun z => by
    have hc := compare_any 9221120237041090561 9221120237041090561 (by decide) (by decide) z
    have h0 : cp 9221120237041090561 9221120237041090561 = 0 := by decide +kernel
    rw [h0] at hc
    exact hc
  have HC3 : Hid (∀ z, Calls Tryd.prog 12 #[.float .f64 4611686018427387904, .float .f64 4607182418800017408] z fun e w' => e = .returned (.int .i64 (1)) ∧ Below z.heap.size z w') := Lib.hid fun z => by
    have hc := compare_any 4611686018427387904 4607182418800017408 (by decide) (by decide) z
    have h0 : cp 4611686018427387904 4607182418800017408 = 1 := by decide +kernel
    rw [h0] at hc
    exact hc
  have HC4 : Hid (∀ z, Calls Tryd.prog 12 #[.float .f64 0, .float .f64 0] z fun e w' => e = .returned (.int .i64 (0)) ∧ Below z.heap.size z w') := Lib.hid fun z => by
    have hc := compare_any 0 0 (by decide) (by decide) z
    have h0 : cp 0 0 = 0 := by decide +kernel
    rw [h0] at hc
    exact hc
  have HC5 : Hid (∀ z, Calls Tryd.prog 12 #[.float .f64 0, .float .f64 9223372036854775808] z fun e w' => e = .returned (.int .i64 (1)) ∧ Below z.heap.size z w') := Lib.hid fun z => by
    have hc := compare_any 0 9223372036854775808 (by decide) (by decide) z
    have h0 : cp 0 9223372036854775808 = 1 := by decide +kernel
    rw [h0] at hc
    exact hc
  have HMI : Hid (∀ z, Calls Tryd.prog 20 #[] z fun e w' => e = .returned (.float .f64 9223372036854775808) ∧ z = w') := Lib.hid minus_any
  have HAL : Hid (∀ z, Calls Tryd.prog 16 #[.float .f64 9223372036854775808, .float .f64 9223372036854775808] z fun e w' => e = .returned (.bool true) ∧ z = w') := Lib.hid alike_M
  have HAZ := Lib.hid alike_Z
  have HXM := Lib.hid text_M
  have HXN := Lib.hid text_N
  have HXI := Lib.hid text_I
  have HXD := Lib.hid text_D
  have HX7 := Lib.hid (fun z (h : Tk z) => text_7 z h.1 h.2.1)
  have HX3T := Lib.hid (fun z (h : Tk z) => text_300 z h.1 h.2.2)
  have HNA := Lib.hid nan_any
  have HIU := Lib.hid inf_up
  have HID := Lib.hid inf_down
  have HOF := Lib.hid of_nil
  have HS1 := Lib.hid same_none
  have HS2 := Lib.hid same_nan
  have HAW := Lib.hid (fun z (h : Tk z) => awake5_any z h.1)
  go_enter Tryd.func6, Tryd.ntmps6
  go_wp2_with fail
  refine (of_nil _).mono ?_
  rintro e w1 ⟨rfl, B1⟩
  have HB := Lib.hid B1
  clear B1
  go_wp2_with fail
  obtain ⟨W1, hW1⟩ : ∃ W1, W1 = (w1.alloc (.cells #[.int .i64 0, .int .i64 0, .float .f64 9218868437227405312, .float .f64 18442240474082181120, .float .f64 9221120237041090561] 26)) := ⟨_, rfl⟩
  have b1 : W1.heap[w1.heap.size]? = some (.cells #[.int .i64 0, .int .i64 0, .float .f64 9218868437227405312, .float .f64 18442240474082181120, .float .f64 9221120237041090561] 26) := by rw [hW1]; exact blk_new w1 _
  have hb1 : Below w.heap.size w W1 := by rw [hW1]; exact HB.out.alloc HB.out.size _
  change Calls _ _ _ (w1.alloc (.cells #[.int .i64 0, .int .i64 0, .float .f64 9218868437227405312, .float .f64 18442240474082181120, .float .f64 9221120237041090561] 26)) _
  rw [← hW1]
  clear hW1
  have BK1 := Lib.hid b1
  have HB1 := Lib.hid hb1
  clear b1 hb1
  generalize w1.heap.size = g1 at *
  refine (nan_any _).mono ?_
  rintro e wn ⟨rfl, rfl⟩
  go_wp2_with fail
  refine (of_nan W1.heap.size _ (blk_new W1 (.cells (fl [xN]).toArray 24 (0, 0)))).mono ?_
  rintro e w2 ⟨rfl, B2⟩
  have hX : Below W1.heap.size W1 w2 := ((Below.refl W1.heap.size W1).alloc (Nat.le_refl _) (.cells (fl [xN]).toArray 24 (0, 0))).trans (B2.mono (by simp))
  have k1 := blk_below BK1.out hX
  have HX2 := Lib.hid (bthen HB1.out hX)
  have HK1 := Lib.hid k1
  clear B2 hX k1 BK1 HB1
  go_wp2_with fail
  obtain ⟨W2, hW2⟩ : ∃ W2, W2 = (w2.alloc (.cells #[.int .i64 1, .int .i64 1, .float .f64 9218868437227405312, .float .f64 18442240474082181120, .float .f64 9221120237041090561] 26)) := ⟨_, rfl⟩
  have b2 : W2.heap[w2.heap.size]? = some (.cells #[.int .i64 1, .int .i64 1, .float .f64 9218868437227405312, .float .f64 18442240474082181120, .float .f64 9221120237041090561] 26) := by rw [hW2]; exact blk_new w2 _
  have hb2 : Below w.heap.size w W2 := by rw [hW2]; exact HX2.out.alloc HX2.out.size _
  change Calls _ _ _ (w2.alloc (.cells #[.int .i64 1, .int .i64 1, .float .f64 9218868437227405312, .float .f64 18442240474082181120, .float .f64 9221120237041090561] 26)) _
  rw [← hW2]
  have q1 : W2.heap[g1]? = some (.cells #[.int .i64 0, .int .i64 0, .float .f64 9218868437227405312, .float .f64 18442240474082181120, .float .f64 9221120237041090561] 26) := by rw [hW2]; exact blk_alloc HK1.out _
  have BK1 := Lib.hid q1
  clear hW2 q1
  have BK2 := Lib.hid b2
  have HB2 := Lib.hid hb2
  clear b2 hb2
  generalize w2.heap.size = g2 at *
  refine (minus_any _).mono ?_
  rintro e wn ⟨rfl, rfl⟩
  go_wp2_with fail
  refine (of_mz W2.heap.size _ (blk_new W2 (.cells (fl [xM]).toArray 24 (0, 0)))).mono ?_
  rintro e w3 ⟨rfl, B3⟩
  have hX : Below W2.heap.size W2 w3 := ((Below.refl W2.heap.size W2).alloc (Nat.le_refl _) (.cells (fl [xM]).toArray 24 (0, 0))).trans (B3.mono (by simp))
  have k1 := blk_below BK1.out hX
  have k2 := blk_below BK2.out hX
  have HX3 := Lib.hid (bthen HB2.out hX)
  have HK4 := Lib.hid k1
  have HK5 := Lib.hid k2
  clear B3 hX k1 k2 BK1 BK2 HB2 HX2 HK1
  have aa0 : (w3.alloc (.cells #[.int .i64 1, .int .i64 0, .float .f64 xM, .float .f64 xM, .float .f64 0] 26)).cell? ⟨g1, 0, none⟩ = some (.int .i64 0) := (blk_cell (blk_alloc HK4.out _) 0).trans rfl
  have aa1 : (w3.alloc (.cells #[.int .i64 1, .int .i64 0, .float .f64 xM, .float .f64 xM, .float .f64 0] 26)).cell? ⟨g1, 1, none⟩ = some (.int .i64 0) := (blk_cell (blk_alloc HK4.out _) 1).trans rfl
  have aa2 : (w3.alloc (.cells #[.int .i64 1, .int .i64 0, .float .f64 xM, .float .f64 xM, .float .f64 0] 26)).cell? ⟨g1, 2, none⟩ = some (.float .f64 9218868437227405312) := (blk_cell (blk_alloc HK4.out _) 2).trans rfl
  have aa3 : (w3.alloc (.cells #[.int .i64 1, .int .i64 0, .float .f64 xM, .float .f64 xM, .float .f64 0] 26)).cell? ⟨g1, 3, none⟩ = some (.float .f64 18442240474082181120) := (blk_cell (blk_alloc HK4.out _) 3).trans rfl
  have aa4 : (w3.alloc (.cells #[.int .i64 1, .int .i64 0, .float .f64 xM, .float .f64 xM, .float .f64 0] 26)).cell? ⟨g1, 4, none⟩ = some (.float .f64 9221120237041090561) := (blk_cell (blk_alloc HK4.out _) 4).trans rfl
  have bb0 : (w3.alloc (.cells #[.int .i64 1, .int .i64 0, .float .f64 xM, .float .f64 xM, .float .f64 0] 26)).cell? ⟨g2, 0, none⟩ = some (.int .i64 1) := (blk_cell (blk_alloc HK5.out _) 0).trans rfl
  have bb1 : (w3.alloc (.cells #[.int .i64 1, .int .i64 0, .float .f64 xM, .float .f64 xM, .float .f64 0] 26)).cell? ⟨g2, 1, none⟩ = some (.int .i64 1) := (blk_cell (blk_alloc HK5.out _) 1).trans rfl
  have bb2 : (w3.alloc (.cells #[.int .i64 1, .int .i64 0, .float .f64 xM, .float .f64 xM, .float .f64 0] 26)).cell? ⟨g2, 2, none⟩ = some (.float .f64 9218868437227405312) := (blk_cell (blk_alloc HK5.out _) 2).trans rfl
  have bb3 : (w3.alloc (.cells #[.int .i64 1, .int .i64 0, .float .f64 xM, .float .f64 xM, .float .f64 0] 26)).cell? ⟨g2, 3, none⟩ = some (.float .f64 18442240474082181120) := (blk_cell (blk_alloc HK5.out _) 3).trans rfl
  have bb4 : (w3.alloc (.cells #[.int .i64 1, .int .i64 0, .float .f64 xM, .float .f64 xM, .float .f64 0] 26)).cell? ⟨g2, 4, none⟩ = some (.float .f64 9221120237041090561) := (blk_cell (blk_alloc HK5.out _) 4).trans rfl
  go_wp2_with fail
  obtain ⟨W3, hW3⟩ : ∃ W3, W3 = (w3.alloc (.cells #[.int .i64 1, .int .i64 0, .float .f64 xM, .float .f64 xM, .float .f64 0] 26)) := ⟨_, rfl⟩
  have b3 : W3.heap[w3.heap.size]? = some (.cells #[.int .i64 1, .int .i64 0, .float .f64 xM, .float .f64 xM, .float .f64 0] 26) := by rw [hW3]; exact blk_new w3 _
  have hb3 : Below w.heap.size w W3 := by rw [hW3]; exact HX3.out.alloc HX3.out.size _
  change Calls _ _ _ (w3.alloc (.cells #[.int .i64 1, .int .i64 0, .float .f64 xM, .float .f64 xM, .float .f64 0] 26)) _
  rw [← hW3]
  have q1 : W3.heap[g1]? = some (.cells #[.int .i64 0, .int .i64 0, .float .f64 9218868437227405312, .float .f64 18442240474082181120, .float .f64 9221120237041090561] 26) := by rw [hW3]; exact blk_alloc HK4.out _
  have q2 : W3.heap[g2]? = some (.cells #[.int .i64 1, .int .i64 1, .float .f64 9218868437227405312, .float .f64 18442240474082181120, .float .f64 9221120237041090561] 26) := by rw [hW3]; exact blk_alloc HK5.out _
  have BK1 := Lib.hid q1
  have BK2 := Lib.hid q2
  clear hW3 q1 q2 aa0 aa1 aa2 aa3 aa4 bb0 bb1 bb2 bb3 bb4 HK4 HK5 HX3
  have BK3 := Lib.hid b3
  have HB3 := Lib.hid hb3
  clear b3 hb3
  generalize w3.heap.size = g3 at *
  have HC : Hid (∀ z, Below W3.heap.size W3 z → z.cell? ⟨g1, 0, none⟩ = some (.int .i64 0) ∧ z.cell? ⟨g1, 1, none⟩ = some (.int .i64 0) ∧ z.cell? ⟨g1, 2, none⟩ = some (.float .f64 9218868437227405312) ∧ z.cell? ⟨g1, 3, none⟩ = some (.float .f64 18442240474082181120) ∧ z.cell? ⟨g1, 4, none⟩ = some (.float .f64 9221120237041090561) ∧ z.cell? ⟨g2, 0, none⟩ = some (.int .i64 1) ∧ z.cell? ⟨g2, 1, none⟩ = some (.int .i64 1) ∧ z.cell? ⟨g2, 2, none⟩ = some (.float .f64 9218868437227405312) ∧ z.cell? ⟨g2, 3, none⟩ = some (.float .f64 18442240474082181120) ∧ z.cell? ⟨g2, 4, none⟩ = some (.float .f64 9221120237041090561) ∧ z.cell? ⟨g3, 0, none⟩ = some (.int .i64 1) ∧ z.cell? ⟨g3, 1, none⟩ = some (.int .i64 0) ∧ z.cell? ⟨g3, 2, none⟩ = some (.float .f64 9223372036854775808) ∧ z.cell? ⟨g3, 3, none⟩ = some (.float .f64 9223372036854775808) ∧ z.cell? ⟨g3, 4, none⟩ = some (.float .f64 0)) := Lib.hid fun z hz => by
    have k1 := blk_below BK1.out hz
    have k2 := blk_below BK2.out hz
    have k3 := blk_below BK3.out hz
    exact ⟨(blk_cell k1 0).trans rfl, (blk_cell k1 1).trans rfl, (blk_cell k1 2).trans rfl, (blk_cell k1 3).trans rfl, (blk_cell k1 4).trans rfl, (blk_cell k2 0).trans rfl, (blk_cell k2 1).trans rfl, (blk_cell k2 2).trans rfl, (blk_cell k2 3).trans rfl, (blk_cell k2 4).trans rfl, (blk_cell k3 0).trans rfl, (blk_cell k3 1).trans rfl, (blk_cell k3 2).trans rfl, (blk_cell k3 3).trans rfl, (blk_cell k3 4).trans rfl⟩
  have K1 := HC.out _ (Below.refl _ _)
  have HTK : Hid (Tk W3) := Lib.hid (HT.out.below HB3.out)
  have e1 : xM = 9223372036854775808 := rfl
  have nn : nanB 9221120237041090561 = true := by decide +kernel
  refine (isInf_1g 9218868437227405312 (by decide +kernel) _).mono ?_
  rintro e wn ⟨rfl, rfl⟩
  go_wp2_with fail
  refine (isInf_mg 18442240474082181120 9218868437227405312 (by intro w; kernel_rfl) (by decide +kernel) _).mono ?_
  rintro e wn ⟨rfl, rfl⟩
  go_wp2_with fail
  refine (isNaN_any 9221120237041090561 _).mono ?_
  rintro e wn ⟨rfl, rfl⟩
  go_wp2_with fail
  refine (isInf_1g 9218868437227405312 (by decide +kernel) _).mono ?_
  rintro e wn ⟨rfl, rfl⟩
  go_wp2_with fail
  refine (isNaN_any 9221120237041090561 _).mono ?_
  rintro e wn ⟨rfl, rfl⟩
  go_wp2_with fail
  have HZ := Lib.hid (Below.refl W3.heap.size W3)
  refine (nan_any _).mono ?_
  rintro e wn ⟨rfl, rfl⟩
  go_wp2_with fail
  refine (inf_down _).mono ?_
  rintro e wn ⟨rfl, rfl⟩
  go_wp2_with fail
  refine (HC1.out _).mono ?_
  rintro e wn ⟨rfl, BB⟩
  replace HZ := Lib.hid (bthen HZ.out BB)
  clear BB
  go_wp2_with fail
  refine (nan_any _).mono ?_
  rintro e wn ⟨rfl, rfl⟩
  go_wp2_with fail
  refine (nan_any _).mono ?_
  rintro e wn ⟨rfl, rfl⟩
  go_wp2_with fail
  refine (HC2.out _).mono ?_
  rintro e wn ⟨rfl, BB⟩
  replace HZ := Lib.hid (bthen HZ.out BB)
  clear BB
  go_wp2_with fail
  refine (HC3.out _).mono ?_
  rintro e wn ⟨rfl, BB⟩
  replace HZ := Lib.hid (bthen HZ.out BB)
  clear BB
  go_wp2_with fail
  refine (HC4.out _).mono ?_
  rintro e wn ⟨rfl, BB⟩
  replace HZ := Lib.hid (bthen HZ.out BB)
  clear BB
  go_wp2_with fail
  refine (minus_any _).mono ?_
  rintro e wn ⟨rfl, rfl⟩
  go_wp2_with fail
  refine (HC5.out _).mono ?_
  rintro e wn ⟨rfl, BB⟩
  replace HZ := Lib.hid (bthen HZ.out BB)
  clear BB
  clear K1
  obtain ⟨W4, hW4⟩ : ∃ W4, W4 = wn := ⟨_, rfl⟩
  rw [← hW4] at HZ ⊢
  clear hW4
  have HC4 : Hid (∀ z, Below W4.heap.size W4 z → z.cell? ⟨g1, 0, none⟩ = some (.int .i64 0) ∧ z.cell? ⟨g1, 1, none⟩ = some (.int .i64 0) ∧ z.cell? ⟨g1, 2, none⟩ = some (.float .f64 9218868437227405312) ∧ z.cell? ⟨g1, 3, none⟩ = some (.float .f64 18442240474082181120) ∧ z.cell? ⟨g1, 4, none⟩ = some (.float .f64 9221120237041090561) ∧ z.cell? ⟨g2, 0, none⟩ = some (.int .i64 1) ∧ z.cell? ⟨g2, 1, none⟩ = some (.int .i64 1) ∧ z.cell? ⟨g2, 2, none⟩ = some (.float .f64 9218868437227405312) ∧ z.cell? ⟨g2, 3, none⟩ = some (.float .f64 18442240474082181120) ∧ z.cell? ⟨g2, 4, none⟩ = some (.float .f64 9221120237041090561) ∧ z.cell? ⟨g3, 0, none⟩ = some (.int .i64 1) ∧ z.cell? ⟨g3, 1, none⟩ = some (.int .i64 0) ∧ z.cell? ⟨g3, 2, none⟩ = some (.float .f64 9223372036854775808) ∧ z.cell? ⟨g3, 3, none⟩ = some (.float .f64 9223372036854775808) ∧ z.cell? ⟨g3, 4, none⟩ = some (.float .f64 0)) := Lib.hid fun z hz => HC.out z (bthen HZ.out hz)
  have HTX : Hid (∀ z, Below W4.heap.size W4 z → Tk z) := Lib.hid fun z hz => HTK.out.below (bthen HZ.out hz)
  have K1 := HC4.out _ (Below.refl _ _)
  have HEND : Hid (∀ z, Below W4.heap.size W4 z → Below w.heap.size w z) := Lib.hid fun z hz => bthen HB3.out (bthen HZ.out hz)
  clear HC HC1 HC2 HC3 HC5 HTK HZ HB3 nn
  go_wp2_with fail
  go_region_held3 (fun z => Below W4.heap.size W4 z ∧ z.cell? ⟨g1, 0, none⟩ = some (.int .i64 0) ∧ z.cell? ⟨g1, 1, none⟩ = some (.int .i64 0) ∧ z.cell? ⟨g1, 2, none⟩ = some (.float .f64 9218868437227405312) ∧ z.cell? ⟨g1, 3, none⟩ = some (.float .f64 18442240474082181120) ∧ z.cell? ⟨g1, 4, none⟩ = some (.float .f64 9221120237041090561) ∧ z.cell? ⟨g2, 0, none⟩ = some (.int .i64 1) ∧ z.cell? ⟨g2, 1, none⟩ = some (.int .i64 1) ∧ z.cell? ⟨g2, 2, none⟩ = some (.float .f64 9218868437227405312) ∧ z.cell? ⟨g2, 3, none⟩ = some (.float .f64 18442240474082181120) ∧ z.cell? ⟨g2, 4, none⟩ = some (.float .f64 9221120237041090561) ∧ z.cell? ⟨g3, 0, none⟩ = some (.int .i64 1) ∧ z.cell? ⟨g3, 1, none⟩ = some (.int .i64 0) ∧ z.cell? ⟨g3, 2, none⟩ = some (.float .f64 9223372036854775808) ∧ z.cell? ⟨g3, 3, none⟩ = some (.float .f64 9223372036854775808) ∧ z.cell? ⟨g3, 4, none⟩ = some (.float .f64 0)) ((refine ⟨?_, HC4.out _ ?_⟩ <;> (repeat (first | (with_reducible exact Below.refl _ _) | (with_reducible refine Below.drew ?_) | (with_reducible refine bl_drewN ?_ _) | ((with_reducible apply bthen); rotate_left; assumption))))) (first | (go_at_call 20; (with_reducible refine (HMI.out _).mono ?_); rintro e wq ⟨rfl, rfl⟩) | (go_at_call 16; (with_reducible refine (HAL.out _).mono ?_); rintro e wq ⟨rfl, rfl⟩) | (go_at_call 16; (with_reducible refine (HAZ.out _).mono ?_); rintro e wq ⟨rfl, rfl⟩) | (go_at_call 21; (with_reducible refine (HXM.out _).mono ?_); rintro e wq ⟨rfl, BQ⟩) | (go_at_call 21; (with_reducible refine (HX3T.out _ ?_).mono ?_); (focus (refine HTX.out _ ?_; (repeat (first | (with_reducible exact Below.refl _ _) | (with_reducible refine Below.drew ?_) | (with_reducible refine bl_drewN ?_ _) | ((with_reducible apply bthen); rotate_left; assumption))); done)); rintro e wq ⟨rfl, BQ⟩) | (go_at_call 21; (with_reducible refine (HXN.out _).mono ?_); rintro e wq ⟨rfl, rfl⟩) | (go_at_call 21; (with_reducible refine (HXD.out _).mono ?_); rintro e wq ⟨rfl, rfl⟩) | (go_at_call 21; (with_reducible refine (HXI.out _).mono ?_); rintro e wq ⟨rfl, rfl⟩) | (go_at_call 21; (with_reducible refine (HX7.out _ ?_).mono ?_); (focus (refine HTX.out _ ?_; (repeat (first | (with_reducible exact Below.refl _ _) | (with_reducible refine Below.drew ?_) | (with_reducible refine bl_drewN ?_ _) | ((with_reducible apply bthen); rotate_left; assumption))); done)); rintro e wq ⟨rfl, BQ⟩) | (go_at_call 17; (with_reducible refine (HNA.out _).mono ?_); rintro e wq ⟨rfl, rfl⟩) | (go_at_call 18; (with_reducible refine (HIU.out _).mono ?_); rintro e wq ⟨rfl, rfl⟩) | (go_at_call 18; (with_reducible refine (HID.out _).mono ?_); rintro e wq ⟨rfl, rfl⟩) | (go_at_call 8; (with_reducible refine (HOF.out _).mono ?_); rintro e wq ⟨rfl, BQ⟩) | (go_at_call 9; (with_reducible refine (HS1.out _).mono ?_); rintro e wq ⟨rfl, BQ⟩) | (go_at_call 9; (with_reducible refine (HS2.out _).mono ?_); rintro e wq ⟨rfl, BQ⟩) | (go_at_call 7; (with_reducible refine (HAW.out _ ?_).mono ?_); (focus (refine HTX.out _ ?_; (repeat (first | (with_reducible exact Below.refl _ _) | (with_reducible refine Below.drew ?_) | (with_reducible refine bl_drewN ?_ _) | ((with_reducible apply bthen); rotate_left; assumption))); done)); rintro e wq ⟨rfl, BQ⟩))
  all_goals
    go_wp2_with fail
    go_ret
    refine ⟨rfl, HEND.out _ ?_⟩
    (repeat (first | (with_reducible exact Below.refl _ _) | (with_reducible refine Below.drew ?_) | (with_reducible refine bl_drewN ?_ _) | ((with_reducible apply bthen); rotate_left; assumption)))
end Go.Proofs.YtedllapajgcfeaaDoor
