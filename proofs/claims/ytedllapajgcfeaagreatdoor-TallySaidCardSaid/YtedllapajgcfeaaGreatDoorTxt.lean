/-
  tally.Text at the number 0.1: walked.
-/
import Derived.Test.YtedllapajgcfeaaGreatDoorTFg
import Derived.Laws.MakeOwn
namespace Go.Proofs.YtedllapajgcfeaaGreatDoor
open Go.RowKit Go.Proofs.YtedllapajgcfeaaGreatDoorW.PrintWords

theorem make_24 (W : World) : (Instr.makeSlice 66 (.int .i64 0) (.int .i64 24)).run Tryz.prog W = .ok (.slice (some ⟨W.heap.size, 0, none⟩) 0 24) (W.alloc (.cells (madeCells #[.int .u8 0] 24) 5)) := by
  have hinfo : (Tryz.prog.info? 5).map (fun i => (i.zero, i.size, i.bytes)) = some (some (.int .u8 0), 1, 1) := by kernel_rfl
  obtain ⟨i, hi, hx⟩ := Option.map_eq_some_iff.1 hinfo
  simp only [Prod.mk.injEq] at hx
  obtain ⟨hz, hs, hb⟩ := hx
  have := run_makeSlice (w := W) 66 5 i (.int .u8 0) Tryz.underlying66 hi hz .i64 .i64 0 24 (by decide) (by decide) (by rw [hs]; decide) (by rw [hb]; decide) (by decide)
  rw [hs] at this
  exact this
theorem own_24 (W : World) : (W.alloc (.cells (madeCells #[.int .u8 0] 24) 5)).ownsRow W.heap.size 5 1 (.slice (some ⟨W.heap.size, 0, none⟩) 0 24) 0 (nums .u8 []) :=
  World.ownsRow_made W _ 24 (Nat.le_refl _) (by decide) (by simp [size_madeCells])
set_option maxRecDepth 100000 in
set_option maxHeartbeats 3200000 in
theorem format_1 (w : World) (hT : Tb w) : Calls Tryz.prog 32 #[.float .f64 4591870180066957722, .int .u8 103, .int .i64 (-1), .int .i64 64] w fun e w' => e = .returned (.string ⟨#[48, 46, 49]⟩) ∧ Below w.heap.size w w' := by
  have m1 : max (3 : Int) 24 = 24 := by decide
  have hmk := make_24
  have HT := Lib.hid hT
  clear hT
  go_enter Tryz.func32, Tryz.ntmps32
  go_wp2_with fail
  have hB : Below w.heap.size w (w.alloc (.cells (madeCells #[.int .u8 0] 24) 5)) := (Below.refl _ _).alloc (Nat.le_refl _) _
  refine (ftoa_1 _ w.heap.size w _ (own_24 w) hB hB.size (HT.out.below hB)).mono ?_
  rintro e w1 ⟨v', rfl, HO, HB⟩
  have hc := own_string (P := Tryz.prog) Tryz.underlying66 Tryz.underlying5 Tryz.underlying9 HO
  have e3 : strOfNums [48, 46, 49] = ⟨#[48, 46, 49]⟩ := by rfl
  rw [e3] at hc
  have HB := Lib.hid HB
  clear hB HO
  go_wp2_with fail
  go_ret
  exact ⟨rfl, HB.out⟩
set_option maxHeartbeats 3200000 in
theorem strfmt_1 (w : World) (hT : Tb w) : Calls Tryz.prog 15 #[.float .f64 4591870180066957722, .int .u8 103, .int .i64 (-1), .int .i64 64] w fun e w' => e = .returned (.string ⟨#[48, 46, 49]⟩) ∧ Below w.heap.size w w' := by
  have HF := Lib.hid (format_1 w hT)
  clear hT
  go_enter Tryz.func15, Tryz.ntmps15
  go_wp2_with fail
  refine HF.out.mono ?_
  rintro e w1 ⟨rfl, HB⟩
  have HB := Lib.hid HB
  go_wp2_with fail
  go_ret
  exact ⟨rfl, HB.out⟩
theorem isNaN_any (x : Nat) (w : World) : Calls Tryz.prog 14 #[.float .f64 x] w fun e w' => e = .returned (.bool (nanB x)) ∧ w = w' := by
  cases h : nanB x
  · have h1 := ordself_no h
    go_enter Tryz.func14, Tryz.ntmps14
    go_wp2
    go_ret
    exact ⟨rfl, rfl⟩
  · have h1 := ordself_nan h
    go_enter Tryz.func14, Tryz.ntmps14
    go_wp2
    go_ret
    exact ⟨rfl, rfl⟩
/-- Is it infinite? The sign is struck first. -/
def gtB (y : Nat) : Bool := decide (FloatKind.f64.format.order y 9218868437227405311 = some .gt)
theorem isInf_at (x y : Nat) (hy : bits .andNot .u64 (x : Int) 9223372036854775808 = (y : Int)) (w : World) : Calls Tryz.prog 7 #[.float .f64 x, .int .i64 0] w fun e w' => e = .returned (.bool (gtB y)) ∧ w = w' := by
  unfold gtB
  rcases ho : FloatKind.f64.format.order y 9218868437227405311 with _ | o
  · go_enter Tryz.func7, Tryz.ntmps7
    go_wp2
    go_ret
    exact ⟨rfl, rfl⟩
  · cases o
    all_goals
      go_enter Tryz.func7, Tryz.ntmps7
      go_wp2
      go_ret
      exact ⟨rfl, rfl⟩
theorem isInf_up (w : World) : Calls Tryz.prog 7 #[.float .f64 4591870180066957722, .int .i64 1] w fun e w' => e = .returned (.bool false) ∧ w = w' := by
  have h1 : FloatKind.f64.format.order 4591870180066957722 9218868437227405311 = some .lt := by decide +kernel
  go_enter Tryz.func7, Tryz.ntmps7
  go_wp2
  go_ret
  exact ⟨rfl, rfl⟩
theorem isInf_down (w : World) : Calls Tryz.prog 7 #[.float .f64 4591870180066957722, .int .i64 (-1)] w fun e w' => e = .returned (.bool false) ∧ w = w' := by
  have h1 : FloatKind.f64.format.order 13815242216921733530 9218868437227405311 = some .lt := by decide +kernel
  have hn : ∀ w, (Op.unary UnOp.neg (.float .f64 4591870180066957722)).run Tryz.prog w = .ok (.float .f64 13815242216921733530) w := fun w => rfl
  go_enter Tryz.func7, Tryz.ntmps7
  go_wp2
  go_ret
  exact ⟨rfl, rfl⟩
set_option maxHeartbeats 3200000 in
theorem text_1 (w : World) (hT : Tb w) : Calls Tryz.prog 5 #[.float .f64 4591870180066957722] w fun e w' => e = .returned (.string ⟨#[48, 46, 49]⟩) ∧ Below w.heap.size w w' := by
  have HF := Lib.hid (strfmt_1 w hT)
  clear hT
  have n1 : nanB 4591870180066957722 = false := by decide +kernel
  go_enter Tryz.func5, Tryz.ntmps5
  go_wp2_with fail
  refine (isNaN_any _ _).mono ?_
  rintro e w1 ⟨rfl, rfl⟩
  go_wp2_with fail
  refine (isInf_up _).mono ?_
  rintro e w1 ⟨rfl, rfl⟩
  go_wp2_with fail
  refine (isInf_down _).mono ?_
  rintro e w1 ⟨rfl, rfl⟩
  go_wp2_with fail
  refine HF.out.mono ?_
  rintro e w1 ⟨rfl, HB⟩
  have HB := Lib.hid HB
  go_wp2_with fail
  go_ret
  exact ⟨rfl, HB.out⟩
end Go.Proofs.YtedllapajgcfeaaGreatDoor
