/-
  Law 05's awake: walked.
-/
import Derived.Test.YtedllapajgcfeaaGreatDoorOf5
namespace Go.Proofs.YtedllapajgcfeaaGreatDoor
set_option linter.unusedVariables false
set_option linter.unusedSimpArgs false
open Go.RowKit Go.Proofs.YtedllapajgcfeaaGreatDoorW.PrintWords

set_option maxHeartbeats 1600000 in
theorem rank_M (w : World) : Calls Tryz.prog 46 #[.float .f64 xM] w fun e w' => e = .returned (.int .u64 9223372036854775808) ∧ w = w' := by
  have b1 : bits .and .u64 2048 2047 = 0 := by decide +kernel
  have e1 : xM = 9223372036854775808 := rfl
  go_enter Tryz.func46, Tryz.ntmps46
  go_wp2_with fail
  go_ret
  exact ⟨rfl, rfl⟩
set_option maxHeartbeats 1600000 in
theorem rcmp_M (w : World) : Calls Tryz.prog 31 #[.float .f64 xM, .float .f64 xM] w fun e w' => e = .returned (.int .i64 0) ∧ w = w' := by
  have H := Lib.hid rank_M
  go_enter Tryz.func31, Tryz.ntmps31
  go_wp2_with (go_at_call 46; refine (H.out _).mono ?_; rintro e w' ⟨rfl, rfl⟩)
  go_ret
  exact ⟨rfl, rfl⟩
set_option maxHeartbeats 1600000 in
theorem alike_M (w : World) : Calls Tryz.prog 12 #[.float .f64 xM, .float .f64 xM] w fun e w' => e = .returned (.bool true) ∧ w = w' := by
  have H := Lib.hid rcmp_M
  go_enter Tryz.func12, Tryz.ntmps12
  go_wp2_with (go_at_call 31; refine (H.out _).mono ?_; rintro e w' ⟨rfl, rfl⟩)
  go_ret
  exact ⟨rfl, rfl⟩
theorem cp_M : cp xM 0 = -1 := by decide +kernel
set_option maxRecDepth 100000 in
set_option maxHeartbeats 6400000 in
theorem awake5_any (w : World) (hT : Tb w) : Calls Tryz.prog 6 #[] w fun e w' => e = .returned (.bool true) ∧ Below w.heap.size w w' := by
  have HT := Lib.hid hT
  clear hT
  go_enter Tryz.func6, Tryz.ntmps6
  go_wp2_with fail
  refine (minus_any _).mono ?_
  rintro e w1 ⟨rfl, rfl⟩
  go_wp2_with fail
  refine (nan_any _).mono ?_
  rintro e w1 ⟨rfl, rfl⟩
  go_wp2_with fail
  refine (inf_up _).mono ?_
  rintro e w1 ⟨rfl, rfl⟩
  go_wp2_with fail
  refine (of_five w.heap.size _ (blk_new w (.cells (fl [x3, xM, 0, xN, xI]).toArray 22 (0, 0)))).mono ?_
  rintro e w2 ⟨rfl, B2⟩
  have hB : Below w.heap.size w w2 := ((Below.refl w.heap.size w).alloc (Nat.le_refl _) (.cells (fl [x3, xM, 0, xN, xI]).toArray 22 (0, 0))).trans (B2.mono (by simp))
  have HB := Lib.hid hB
  clear B2 hB
  go_wp2_with fail
  obtain ⟨W0, hW0⟩ : ∃ W0, W0 = w2.alloc (.cells #[.int .i64 5, .int .i64 2, .float .f64 xM, .float .f64 x3, .float .f64 x1] 34) := ⟨_, rfl⟩
  have hk : W0.heap[w2.heap.size]? = some (.cells #[.int .i64 5, .int .i64 2, .float .f64 xM, .float .f64 x3, .float .f64 x1] 34) := by rw [hW0]; exact blk_new w2 _
  have hB0 : Below w.heap.size w W0 := by rw [hW0]; exact HB.out.alloc HB.out.size _
  with_reducible change Code.wp _ _ _ _ (w2.alloc (.cells #[.int .i64 5, .int .i64 2, .float .f64 xM, .float .f64 x3, .float .f64 x1] 34))
  rw [← hW0]
  clear hW0
  have HB0 := Lib.hid hB0
  generalize w2.heap.size = gt at *
  have HC : Hid (∀ z, Below W0.heap.size W0 z → z.cell? ⟨gt, 0, none⟩ = some (.int .i64 5) ∧ z.cell? ⟨gt, 1, none⟩ = some (.int .i64 2) ∧ z.cell? ⟨gt, 2, none⟩ = some (.float .f64 xM) ∧ z.cell? ⟨gt, 3, none⟩ = some (.float .f64 x3) ∧ z.cell? ⟨gt, 4, none⟩ = some (.float .f64 x1)) := Lib.hid fun z hz => by
    have k := blk_below hk hz
    exact ⟨(blk_cell k 0).trans rfl, (blk_cell k 1).trans rfl, (blk_cell k 2).trans rfl, (blk_cell k 3).trans rfl, (blk_cell k 4).trans rfl⟩
  have HTX : Hid (∀ z, Below W0.heap.size W0 z → Tb z) := Lib.hid fun z hz => HT.out.below (hB0.trans (hz.mono hB0.size))
  have HCP : Hid (∀ z, Calls Tryz.prog 9 #[.float .f64 xM, .float .f64 0] z fun e w' => e = .returned (.int .i64 (-1)) ∧ Below z.heap.size z w') := Lib.hid fun z => by
    have := compare_any xM 0 (by decide) (by decide) z
    rw [cp_M] at this
    exact this
  have HAL := Lib.hid alike_M
  have HMI := Lib.hid minus_any
  have HXT := Lib.hid (fun z (h : Tb z) => text_1 z h)
  have o1 : FloatKind.f64.format.order x3 4613937818241073152 = some .eq := by decide +kernel
  have o2 : FloatKind.f64.format.order x1 4607182418800017408 = some .eq := by decide +kernel
  have K1 := HC.out _ (Below.refl _ _)
  clear hk hB0
  go_region_held3 (fun z => Below W0.heap.size W0 z ∧ z.cell? ⟨gt, 0, none⟩ = some (.int .i64 5) ∧ z.cell? ⟨gt, 1, none⟩ = some (.int .i64 2) ∧ z.cell? ⟨gt, 2, none⟩ = some (.float .f64 xM) ∧ z.cell? ⟨gt, 3, none⟩ = some (.float .f64 x3) ∧ z.cell? ⟨gt, 4, none⟩ = some (.float .f64 x1)) ((refine ⟨?_, HC.out _ ?_⟩ <;> (repeat (first | (with_reducible exact Below.refl _ _) | (with_reducible refine Below.drew ?_) | (with_reducible refine bl_drewN ?_ _) | ((with_reducible apply bthen); rotate_left; assumption))))) ((first | (go_at_call 16; (with_reducible refine (HMI.out _).mono ?_); rintro e w3 ⟨rfl, rfl⟩) | (go_at_call 12; (with_reducible refine (HAL.out _).mono ?_); rintro e w4 ⟨rfl, rfl⟩) | (go_at_call 9; (with_reducible refine (HCP.out _).mono ?_); rintro e w5 ⟨rfl, B5⟩) | (go_at_call 5; (with_reducible refine (HXT.out _ ?_).mono ?_); (focus (refine HTX.out _ ?_; (repeat (first | (with_reducible exact Below.refl _ _) | (with_reducible refine Below.drew ?_) | (with_reducible refine bl_drewN ?_ _) | ((with_reducible apply bthen); rotate_left; assumption))); done)); rintro e w6 ⟨rfl, B6⟩)))
  all_goals
    go_wp2_with fail
    go_ret
    refine ⟨rfl, bthen HB0.out ?_⟩
    (repeat (first | (with_reducible exact Below.refl _ _) | (with_reducible refine Below.drew ?_) | (with_reducible refine bl_drewN ?_ _) | ((with_reducible apply bthen); rotate_left; assumption)))
end Go.Proofs.YtedllapajgcfeaaGreatDoor
