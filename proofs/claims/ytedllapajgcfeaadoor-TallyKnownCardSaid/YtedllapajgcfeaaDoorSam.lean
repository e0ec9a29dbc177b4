/-
  tally.Same at the tally of nothing, and beside that of NaN: walked.
-/
import Derived.Test.YtedllapajgcfeaaDoorOfs5
namespace Go.Proofs.YtedllapajgcfeaaDoor
set_option linter.unusedVariables false
set_option linter.unusedSimpArgs false
open Go.RowKit Go.Proofs.YtedllapajgcfeaaDoorW.PrintWords

theorem cp_I : cp 9218868437227405312 9218868437227405312 = 0 := by decide +kernel
theorem cp_D : cp 18442240474082181120 18442240474082181120 = 0 := by decide +kernel
theorem cp_N : cp 9221120237041090561 9221120237041090561 = 0 := by decide +kernel
set_option maxRecDepth 100000 in
set_option maxHeartbeats 6400000 in
theorem same_none (w : World) : Calls Tryd.prog 9 #[.agg #[.int .i64 0, .int .i64 0, .float .f64 9218868437227405312, .float .f64 18442240474082181120, .float .f64 9221120237041090561], .agg #[.int .i64 0, .int .i64 0, .float .f64 9218868437227405312, .float .f64 18442240474082181120, .float .f64 9221120237041090561]] w fun e w' => e = .returned (.bool true) ∧ Below w.heap.size w w' := by
  have HI : Hid (∀ z, Calls Tryd.prog 12 #[.float .f64 9218868437227405312, .float .f64 9218868437227405312] z fun e w' => e = .returned (.int .i64 0) ∧ Below z.heap.size z w') := Lib.hid fun z => by
    have := compare_any 9218868437227405312 9218868437227405312 (by decide) (by decide) z
    rw [cp_I] at this
    exact this
  have HD : Hid (∀ z, Calls Tryd.prog 12 #[.float .f64 18442240474082181120, .float .f64 18442240474082181120] z fun e w' => e = .returned (.int .i64 0) ∧ Below z.heap.size z w') := Lib.hid fun z => by
    have := compare_any 18442240474082181120 18442240474082181120 (by decide) (by decide) z
    rw [cp_D] at this
    exact this
  have HN : Hid (∀ z, Calls Tryd.prog 12 #[.float .f64 9221120237041090561, .float .f64 9221120237041090561] z fun e w' => e = .returned (.int .i64 0) ∧ Below z.heap.size z w') := Lib.hid fun z => by
    have := compare_any 9221120237041090561 9221120237041090561 (by decide) (by decide) z
    rw [cp_N] at this
    exact this
  go_enter Tryd.func9, Tryd.ntmps9
  go_wp2_with fail
  obtain ⟨W0, hW0⟩ : ∃ W0, W0 = ((w.alloc (.cells #[.int .i64 0, .int .i64 0, .float .f64 9218868437227405312, .float .f64 18442240474082181120, .float .f64 9221120237041090561] 26)).alloc (.cells #[.int .i64 0, .int .i64 0, .float .f64 9218868437227405312, .float .f64 18442240474082181120, .float .f64 9221120237041090561] 26)) := ⟨_, rfl⟩
  have h2 : W0.heap[w.heap.size + 1]? = some (.cells #[.int .i64 0, .int .i64 0, .float .f64 9218868437227405312, .float .f64 18442240474082181120, .float .f64 9221120237041090561] 26) := by
    rw [hW0]
    have := blk_new (w.alloc (.cells #[.int .i64 0, .int .i64 0, .float .f64 9218868437227405312, .float .f64 18442240474082181120, .float .f64 9221120237041090561] 26)) (.cells #[.int .i64 0, .int .i64 0, .float .f64 9218868437227405312, .float .f64 18442240474082181120, .float .f64 9221120237041090561] 26)
    simpa using this
  have h1 : W0.heap[w.heap.size]? = some (.cells #[.int .i64 0, .int .i64 0, .float .f64 9218868437227405312, .float .f64 18442240474082181120, .float .f64 9221120237041090561] 26) := by rw [hW0]; exact blk_alloc (blk_new w _) _
  have hB0 : Below w.heap.size w W0 := by rw [hW0]; exact ((Below.refl w.heap.size w).alloc (Nat.le_refl _) _).alloc (by simp) _
  have HC : Hid (∀ z, Below W0.heap.size W0 z → z.cell? ⟨w.heap.size, 0, none⟩ = some (.int .i64 0) ∧ z.cell? ⟨w.heap.size, 1, none⟩ = some (.int .i64 0) ∧ z.cell? ⟨w.heap.size, 2, none⟩ = some (.float .f64 9218868437227405312) ∧ z.cell? ⟨w.heap.size, 3, none⟩ = some (.float .f64 18442240474082181120) ∧ z.cell? ⟨w.heap.size, 4, none⟩ = some (.float .f64 9221120237041090561) ∧ z.cell? ⟨w.heap.size + 1, 0, none⟩ = some (.int .i64 0) ∧ z.cell? ⟨w.heap.size + 1, 1, none⟩ = some (.int .i64 0) ∧ z.cell? ⟨w.heap.size + 1, 2, none⟩ = some (.float .f64 9218868437227405312) ∧ z.cell? ⟨w.heap.size + 1, 3, none⟩ = some (.float .f64 18442240474082181120) ∧ z.cell? ⟨w.heap.size + 1, 4, none⟩ = some (.float .f64 9221120237041090561)) := Lib.hid fun z hz => by
    have k1 := blk_below h1 hz
    have k2 := blk_below h2 hz
    exact ⟨(blk_cell k1 0).trans rfl, (blk_cell k1 1).trans rfl, (blk_cell k1 2).trans rfl, (blk_cell k1 3).trans rfl, (blk_cell k1 4).trans rfl, (blk_cell k2 0).trans rfl, (blk_cell k2 1).trans rfl, (blk_cell k2 2).trans rfl, (blk_cell k2 3).trans rfl, (blk_cell k2 4).trans rfl⟩
  change Calls _ _ _ ((w.alloc (.cells #[.int .i64 0, .int .i64 0, .float .f64 9218868437227405312, .float .f64 18442240474082181120, .float .f64 9221120237041090561] 26)).alloc (.cells #[.int .i64 0, .int .i64 0, .float .f64 9218868437227405312, .float .f64 18442240474082181120, .float .f64 9221120237041090561] 26)) _
  rw [← hW0]
  clear hW0 h1 h2
  have HB := Lib.hid (Below.refl W0.heap.size W0)
  refine (HI.out _).mono ?_
  rintro e w1 ⟨rfl, B1⟩
  have HB1 := Lib.hid (bthen HB.out B1)
  have K1 := HC.out _ HB1.out
  clear B1
  go_wp2_with fail
  refine (HD.out _).mono ?_
  rintro e w2 ⟨rfl, B2⟩
  have HB2 := Lib.hid (bthen HB1.out B2)
  clear K1 B2
  have K1 := HC.out _ HB2.out
  go_wp2_with fail
  refine (HN.out _).mono ?_
  rintro e w3 ⟨rfl, B3⟩
  have HB3 := Lib.hid (bthen HB2.out B3)
  clear K1 B3
  go_wp2_with fail
  go_ret
  exact ⟨rfl, bthen hB0 HB3.out⟩
set_option maxRecDepth 100000 in
set_option maxHeartbeats 6400000 in
theorem same_nan (w : World) : Calls Tryd.prog 9 #[.agg #[.int .i64 0, .int .i64 0, .float .f64 9218868437227405312, .float .f64 18442240474082181120, .float .f64 9221120237041090561], .agg #[.int .i64 1, .int .i64 1, .float .f64 9218868437227405312, .float .f64 18442240474082181120, .float .f64 9221120237041090561]] w fun e w' => e = .returned (.bool false) ∧ Below w.heap.size w w' := by
  go_enter Tryd.func9, Tryd.ntmps9
  go_wp2_with fail
  go_ret
  exact ⟨rfl, ((Below.refl w.heap.size w).alloc (Nat.le_refl _) _).alloc (by simp) _⟩
end Go.Proofs.YtedllapajgcfeaaDoor
