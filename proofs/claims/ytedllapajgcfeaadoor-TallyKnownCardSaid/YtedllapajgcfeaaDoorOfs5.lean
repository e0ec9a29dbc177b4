/-
  tally.Of at no number, at NaN, at -0: walked.
-/
import Derived.Test.YtedllapajgcfeaaDoorOf0
namespace Go.Proofs.YtedllapajgcfeaaDoor
set_option linter.unusedVariables false
set_option linter.unusedSimpArgs false
open Go.RowKit Go.Proofs.YtedllapajgcfeaaDoorW.PrintWords

theorem one_no (x : Nat) (h : oddB x = false) : ∀ k, k < [x].length → oddB ([x].getD k 0) = false := by
  intro k hk
  have : k = 0 := by simp at hk; exact hk
  subst this
  exact h
theorem cnv_1 (W : World) : (convert 3 24 (.int .i64 1)).run Tryd.prog W = .ok (.float .f64 x1) W := by kernel_rfl
theorem quo_1 (W : World) : (binOp .quo 24 (.float .f64 0) (.float .f64 x1)).run Tryd.prog W = .ok (.float .f64 0) W := by kernel_rfl
set_option maxRecDepth 100000 in
set_option maxHeartbeats 1600000 in
theorem of_nil (w : World):
    Calls Tryd.prog 8 #[.slice none 0 0] w fun e w' => e = .returned (.agg #[.int .i64 0, .int .i64 0, .float .f64 9218868437227405312, .float .f64 18442240474082181120, .float .f64 9221120237041090561]) ∧ Below w.heap.size w w' := by
  go_enter Tryd.func8, Tryd.ntmps8
  go_wp2_with fail
  have hB0 : Below w.heap.size w (w.alloc (.cells #[.int .i64 0, .int .i64 0, .float .f64 0, .float .f64 0, .float .f64 0] 26)) := (Below.refl _ _).alloc (Nat.le_refl _) _
  have hr0 := blk_new w (.cells #[.int .i64 0, .int .i64 0, .float .f64 0, .float .f64 0, .float .f64 0] 26)
  refine (tsort_nil (w.alloc (.cells #[.int .i64 0, .int .i64 0, .float .f64 0, .float .f64 0, .float .f64 0] 26))).mono ?_
  rintro e w1 ⟨g, rfl, HR, hgl, B1⟩
  have hr1 := blk_below hr0 B1
  have hB1 : Below w.heap.size w w1 := hB0.trans (B1.mono hB0.size)
  have hgr : w.heap.size < g := by have := hgl; simp at this; omega
  have HD := Lib.hid (del_none [] g 0 [] (by decide) (fun k hk => by cases hk) (fun k hk => by cases hk) w1 HR)
  have HRB1 := Lib.hid hr1
  have HB1 := Lib.hid hB1
  have HGR := Lib.hid hgr
  clear HR hr0 hr1 hB0 hB1 B1 hgr hgl
  go_wp2_with fail
  refine HD.out.mono ?_
  rintro e w2 ⟨rfl, rfl⟩
  have HX2 := Bx.refl g w1
  obtain ⟨w2, hw2⟩ : ∃ w2, w2 = w1 := ⟨_, rfl⟩
  rw [← hw2] at HX2 HRB1 HB1 ⊢
  clear hw2 HD
  have hr2 : w2.heap[w.heap.size]? = some (.cells #[.int .i64 0, .int .i64 0, .float .f64 0, .float .f64 0, .float .f64 0] 26) := (HX2.1.block _ HGR.out).trans HRB1.out
  have hB2 : Below w.heap.size w w2 := HB1.out.trans (HX2.1.mono (Nat.le_of_lt HGR.out))
  have HRR := Lib.hid hr2
  have HB2 := Lib.hid hB2
  clear HX2 hr2 hB2 HRB1 HB1
  go_wp2_with fail
  refine (inf_up _).mono ?_
  rintro e w3 ⟨rfl, rfl⟩
  go_wp2_with fail
  refine (inf_down _).mono ?_
  rintro e w3 ⟨rfl, rfl⟩
  go_wp2_with fail
  refine (nan_any _).mono ?_
  rintro e w3 ⟨rfl, rfl⟩
  have q1 : ∀ o, (w2.alloc o).heap[w.heap.size]? = some (.cells #[.int .i64 0, .int .i64 0, .float .f64 0, .float .f64 0, .float .f64 0] 26) := fun o => blk_alloc HRR.out o
  have r0 : ∀ o, (w2.alloc o).cell? ⟨w.heap.size, 0, none⟩ = some (.int .i64 0) := fun o => (blk_cell (q1 o) 0).trans rfl
  have f0 : ∀ o, (w2.alloc o).frozen? ⟨w.heap.size, 0, none⟩ = false := fun o => blk_frozen (q1 o) 0
  have r1 : ∀ o, (w2.alloc o).cell? ⟨w.heap.size, 1, none⟩ = some (.int .i64 0) := fun o => (blk_cell (q1 o) 1).trans rfl
  have f1 : ∀ o, (w2.alloc o).frozen? ⟨w.heap.size, 1, none⟩ = false := fun o => blk_frozen (q1 o) 1
  have r2 : ∀ o, (w2.alloc o).cell? ⟨w.heap.size, 2, none⟩ = some (.float .f64 0) := fun o => (blk_cell (q1 o) 2).trans rfl
  have f2 : ∀ o, (w2.alloc o).frozen? ⟨w.heap.size, 2, none⟩ = false := fun o => blk_frozen (q1 o) 2
  have r3 : ∀ o, (w2.alloc o).cell? ⟨w.heap.size, 3, none⟩ = some (.float .f64 0) := fun o => (blk_cell (q1 o) 3).trans rfl
  have f3 : ∀ o, (w2.alloc o).frozen? ⟨w.heap.size, 3, none⟩ = false := fun o => blk_frozen (q1 o) 3
  have r4 : ∀ o, (w2.alloc o).cell? ⟨w.heap.size, 4, none⟩ = some (.float .f64 0) := fun o => (blk_cell (q1 o) 4).trans rfl
  have f4 : ∀ o, (w2.alloc o).frozen? ⟨w.heap.size, 4, none⟩ = false := fun o => blk_frozen (q1 o) 4
  have rr0 : w2.cell? ⟨w.heap.size, 0, none⟩ = some (.int .i64 0) := (blk_cell HRR.out 0).trans rfl
  have ff0 := blk_frozen HRR.out 0
  have rr1 : w2.cell? ⟨w.heap.size, 1, none⟩ = some (.int .i64 0) := (blk_cell HRR.out 1).trans rfl
  have ff1 := blk_frozen HRR.out 1
  have rr2 : w2.cell? ⟨w.heap.size, 2, none⟩ = some (.float .f64 0) := (blk_cell HRR.out 2).trans rfl
  have ff2 := blk_frozen HRR.out 2
  have rr3 : w2.cell? ⟨w.heap.size, 3, none⟩ = some (.float .f64 0) := (blk_cell HRR.out 3).trans rfl
  have ff3 := blk_frozen HRR.out 3
  have rr4 : w2.cell? ⟨w.heap.size, 4, none⟩ = some (.float .f64 0) := (blk_cell HRR.out 4).trans rfl
  have ff4 := blk_frozen HRR.out 4
  have hne1 : ¬ w.heap.size = w2.heap.size := by have := blk_lt HRR.out; omega
  have hlt : w.heap.size < w2.heap.size := blk_lt HRR.out
  have g0 : (w2.alloc (.cells #[.int .i64 0, .int .i64 0, .float .f64 9218868437227405312, .float .f64 18442240474082181120, .float .f64 9221120237041090561] 26)).cell? ⟨w2.heap.size, 0, none⟩ = some (.int .i64 0) := (blk_cell (blk_new w2 (.cells #[.int .i64 0, .int .i64 0, .float .f64 9218868437227405312, .float .f64 18442240474082181120, .float .f64 9221120237041090561] 26)) 0).trans rfl
  have g1 : (w2.alloc (.cells #[.int .i64 0, .int .i64 0, .float .f64 9218868437227405312, .float .f64 18442240474082181120, .float .f64 9221120237041090561] 26)).cell? ⟨w2.heap.size, 1, none⟩ = some (.int .i64 0) := (blk_cell (blk_new w2 (.cells #[.int .i64 0, .int .i64 0, .float .f64 9218868437227405312, .float .f64 18442240474082181120, .float .f64 9221120237041090561] 26)) 1).trans rfl
  have g2 : (w2.alloc (.cells #[.int .i64 0, .int .i64 0, .float .f64 9218868437227405312, .float .f64 18442240474082181120, .float .f64 9221120237041090561] 26)).cell? ⟨w2.heap.size, 2, none⟩ = some (.float .f64 9218868437227405312) := (blk_cell (blk_new w2 (.cells #[.int .i64 0, .int .i64 0, .float .f64 9218868437227405312, .float .f64 18442240474082181120, .float .f64 9221120237041090561] 26)) 2).trans rfl
  have g3 : (w2.alloc (.cells #[.int .i64 0, .int .i64 0, .float .f64 9218868437227405312, .float .f64 18442240474082181120, .float .f64 9221120237041090561] 26)).cell? ⟨w2.heap.size, 3, none⟩ = some (.float .f64 18442240474082181120) := (blk_cell (blk_new w2 (.cells #[.int .i64 0, .int .i64 0, .float .f64 9218868437227405312, .float .f64 18442240474082181120, .float .f64 9221120237041090561] 26)) 3).trans rfl
  have g4 : (w2.alloc (.cells #[.int .i64 0, .int .i64 0, .float .f64 9218868437227405312, .float .f64 18442240474082181120, .float .f64 9221120237041090561] 26)).cell? ⟨w2.heap.size, 4, none⟩ = some (.float .f64 9221120237041090561) := (blk_cell (blk_new w2 (.cells #[.int .i64 0, .int .i64 0, .float .f64 9218868437227405312, .float .f64 18442240474082181120, .float .f64 9221120237041090561] 26)) 4).trans rfl
  have HRB := Lib.hid (q1 (.cells #[.int .i64 0, .int .i64 0, .float .f64 9218868437227405312, .float .f64 18442240474082181120, .float .f64 9221120237041090561] 26))
  have HBf := Lib.hid (HB2.out.alloc HB2.out.size (.cells #[.int .i64 0, .int .i64 0, .float .f64 9218868437227405312, .float .f64 18442240474082181120, .float .f64 9221120237041090561] 26))
  clear q1
  go_wp2_with fail
  obtain ⟨Wz, hWz⟩ : ∃ Wz, Wz = ((((((w2.setCell ⟨w.heap.size, 0, none⟩ (.int .i64 0)).setCell ⟨w.heap.size, 1, none⟩ (.int .i64 0)).setCell ⟨w.heap.size, 2, none⟩ (.float .f64 9218868437227405312)).setCell ⟨w.heap.size, 3, none⟩ (.float .f64 18442240474082181120)).setCell ⟨w.heap.size, 4, none⟩ (.float .f64 9221120237041090561)).alloc (.cells #[.int .i64 0, .int .i64 0, .float .f64 9218868437227405312, .float .f64 18442240474082181120, .float .f64 9221120237041090561] 26)) := ⟨_, rfl⟩
  have hz : Wz.heap[w.heap.size]? = some (.cells #[.int .i64 0, .int .i64 0, .float .f64 9218868437227405312, .float .f64 18442240474082181120, .float .f64 9221120237041090561] 26 (0, 0)) := by
    rw [hWz]
    exact (blk_alloc (blk_put (blk_put (blk_put (blk_put (blk_put HRR.out 0 _ rfl) 1 _ rfl) 2 _ rfl) 3 _ rfl) 4 _ rfl) _)
  have hbz : Below w.heap.size w Wz := by
    rw [hWz]
    exact (have h5 := (((((HB2.out.setCell (p := ⟨w.heap.size, 0, none⟩) (Nat.le_refl _) _).setCell (p := ⟨w.heap.size, 1, none⟩) (Nat.le_refl _) _).setCell (p := ⟨w.heap.size, 2, none⟩) (Nat.le_refl _) _).setCell (p := ⟨w.heap.size, 3, none⟩) (Nat.le_refl _) _).setCell (p := ⟨w.heap.size, 4, none⟩) (Nat.le_refl _) _); h5.alloc h5.size _)
  with_reducible change bodyPost _ _ _ _ _ ((((((w2.setCell ⟨w.heap.size, 0, none⟩ (.int .i64 0)).setCell ⟨w.heap.size, 1, none⟩ (.int .i64 0)).setCell ⟨w.heap.size, 2, none⟩ (.float .f64 9218868437227405312)).setCell ⟨w.heap.size, 3, none⟩ (.float .f64 18442240474082181120)).setCell ⟨w.heap.size, 4, none⟩ (.float .f64 9221120237041090561)).alloc (.cells #[.int .i64 0, .int .i64 0, .float .f64 9218868437227405312, .float .f64 18442240474082181120, .float .f64 9221120237041090561] 26))
  rw [← hWz]
  clear hWz r0 r1 r2 r3 r4 f0 f1 f2 f3 f4 g0 g1 g2 g3 g4 hlt
  have r0 : Wz.cell? ⟨w.heap.size, 0, none⟩ = some (.int .i64 0) := (blk_cell hz 0).trans rfl
  have r1 : Wz.cell? ⟨w.heap.size, 1, none⟩ = some (.int .i64 0) := (blk_cell hz 1).trans rfl
  have r2 : Wz.cell? ⟨w.heap.size, 2, none⟩ = some (.float .f64 9218868437227405312) := (blk_cell hz 2).trans rfl
  have r3 : Wz.cell? ⟨w.heap.size, 3, none⟩ = some (.float .f64 18442240474082181120) := (blk_cell hz 3).trans rfl
  have r4 : Wz.cell? ⟨w.heap.size, 4, none⟩ = some (.float .f64 9221120237041090561) := (blk_cell hz 4).trans rfl
  refine bodyPost_ret (v := .agg #[.int .i64 0, .int .i64 0, .float .f64 9218868437227405312, .float .f64 18442240474082181120, .float .f64 9221120237041090561]) ?_ rfl ⟨rfl, hbz⟩
  simp [results, Tryd.results8, go_sem, r0, r1, r2, r3, r4]
set_option maxRecDepth 100000 in
set_option maxHeartbeats 1600000 in
theorem of_nan (gx : Nat) (w : World) (h : w.heap[gx]? = some (.cells (fl [xN]).toArray 24 (0, 0))):
    Calls Tryd.prog 8 #[.slice (some ⟨gx, 0, none⟩) 1 1] w fun e w' => e = .returned (.agg #[.int .i64 1, .int .i64 1, .float .f64 9218868437227405312, .float .f64 18442240474082181120, .float .f64 9221120237041090561]) ∧ Below w.heap.size w w' := by
  have HH := Lib.hid h
  clear h
  go_enter Tryd.func8, Tryd.ntmps8
  go_wp2_with fail
  have hB0 : Below w.heap.size w (w.alloc (.cells #[.int .i64 0, .int .i64 0, .float .f64 0, .float .f64 0, .float .f64 0] 26)) := (Below.refl _ _).alloc (Nat.le_refl _) _
  have hr0 := blk_new w (.cells #[.int .i64 0, .int .i64 0, .float .f64 0, .float .f64 0, .float .f64 0] 26)
  have hA : ∀ z, Below (w.alloc (.cells #[.int .i64 0, .int .i64 0, .float .f64 0, .float .f64 0, .float .f64 0] 26)).heap.size (w.alloc (.cells #[.int .i64 0, .int .i64 0, .float .f64 0, .float .f64 0, .float .f64 0] 26)) z → ∀ k, k < [xN].length → z.cell? ((⟨gx, 0, none⟩ : Addr).add k) = some (.float .f64 ([xN].getD k 0)) := by
    intro z hz k hk
    have hb := blk_below (blk_alloc HH.out (.cells #[.int .i64 0, .int .i64 0, .float .f64 0, .float .f64 0, .float .f64 0] 26)) hz
    have h0 : k = 0 := by simp at hk; exact hk
    subst h0
    rw [add_zero_at]
    exact (blk_cell hb 0).trans rfl
  refine (tsort_any ⟨gx, 0, none⟩ 1 [xN] (by decide) (by decide) (fun q hq => by rw [List.mem_singleton.1 hq]; decide) (w.alloc (.cells #[.int .i64 0, .int .i64 0, .float .f64 0, .float .f64 0, .float .f64 0] 26)) hA).mono ?_
  rintro e w1 ⟨g, cap, T, rfl, HR, hgl, hcap, B1⟩
  have HR1 : RowF T w1 g [xN] := by
    have e1 : srt (canonL [xN]) ([xN].length - 1) = [xN] := by decide +kernel
    rw [← e1]; exact HR
  have hr1 := blk_below hr0 B1
  have hB1 : Below w.heap.size w w1 := hB0.trans (B1.mono hB0.size)
  have hgr : w.heap.size < g := by have := hgl; simp at this; omega
  have HD := Lib.hid (del_nan T g cap hcap w1 HR1)
  have HRB1 := Lib.hid hr1
  have HB1 := Lib.hid hB1
  have HGR := Lib.hid hgr
  clear HR hA hr0 hr1 hB0 hB1 B1 hgr hgl hcap HR1
  go_wp2_with fail
  refine HD.out.mono ?_
  rintro e w2 ⟨cap2, rfl, HX2⟩
  clear HD
  have hr2 : w2.heap[w.heap.size]? = some (.cells #[.int .i64 0, .int .i64 0, .float .f64 0, .float .f64 0, .float .f64 0] 26) := (HX2.1.block _ HGR.out).trans HRB1.out
  have hB2 : Below w.heap.size w w2 := HB1.out.trans (HX2.1.mono (Nat.le_of_lt HGR.out))
  have HRR := Lib.hid hr2
  have HB2 := Lib.hid hB2
  clear HX2 hr2 hB2 HRB1 HB1
  go_wp2_with fail
  refine (inf_up _).mono ?_
  rintro e w3 ⟨rfl, rfl⟩
  go_wp2_with fail
  refine (inf_down _).mono ?_
  rintro e w3 ⟨rfl, rfl⟩
  go_wp2_with fail
  refine (nan_any _).mono ?_
  rintro e w3 ⟨rfl, rfl⟩
  have q1 : ∀ o, (w2.alloc o).heap[w.heap.size]? = some (.cells #[.int .i64 0, .int .i64 0, .float .f64 0, .float .f64 0, .float .f64 0] 26) := fun o => blk_alloc HRR.out o
  have r0 : ∀ o, (w2.alloc o).cell? ⟨w.heap.size, 0, none⟩ = some (.int .i64 0) := fun o => (blk_cell (q1 o) 0).trans rfl
  have f0 : ∀ o, (w2.alloc o).frozen? ⟨w.heap.size, 0, none⟩ = false := fun o => blk_frozen (q1 o) 0
  have r1 : ∀ o, (w2.alloc o).cell? ⟨w.heap.size, 1, none⟩ = some (.int .i64 0) := fun o => (blk_cell (q1 o) 1).trans rfl
  have f1 : ∀ o, (w2.alloc o).frozen? ⟨w.heap.size, 1, none⟩ = false := fun o => blk_frozen (q1 o) 1
  have r2 : ∀ o, (w2.alloc o).cell? ⟨w.heap.size, 2, none⟩ = some (.float .f64 0) := fun o => (blk_cell (q1 o) 2).trans rfl
  have f2 : ∀ o, (w2.alloc o).frozen? ⟨w.heap.size, 2, none⟩ = false := fun o => blk_frozen (q1 o) 2
  have r3 : ∀ o, (w2.alloc o).cell? ⟨w.heap.size, 3, none⟩ = some (.float .f64 0) := fun o => (blk_cell (q1 o) 3).trans rfl
  have f3 : ∀ o, (w2.alloc o).frozen? ⟨w.heap.size, 3, none⟩ = false := fun o => blk_frozen (q1 o) 3
  have r4 : ∀ o, (w2.alloc o).cell? ⟨w.heap.size, 4, none⟩ = some (.float .f64 0) := fun o => (blk_cell (q1 o) 4).trans rfl
  have f4 : ∀ o, (w2.alloc o).frozen? ⟨w.heap.size, 4, none⟩ = false := fun o => blk_frozen (q1 o) 4
  have rr0 : w2.cell? ⟨w.heap.size, 0, none⟩ = some (.int .i64 0) := (blk_cell HRR.out 0).trans rfl
  have ff0 := blk_frozen HRR.out 0
  have rr1 : w2.cell? ⟨w.heap.size, 1, none⟩ = some (.int .i64 0) := (blk_cell HRR.out 1).trans rfl
  have ff1 := blk_frozen HRR.out 1
  have rr2 : w2.cell? ⟨w.heap.size, 2, none⟩ = some (.float .f64 0) := (blk_cell HRR.out 2).trans rfl
  have ff2 := blk_frozen HRR.out 2
  have rr3 : w2.cell? ⟨w.heap.size, 3, none⟩ = some (.float .f64 0) := (blk_cell HRR.out 3).trans rfl
  have ff3 := blk_frozen HRR.out 3
  have rr4 : w2.cell? ⟨w.heap.size, 4, none⟩ = some (.float .f64 0) := (blk_cell HRR.out 4).trans rfl
  have ff4 := blk_frozen HRR.out 4
  have hne1 : ¬ w.heap.size = w2.heap.size := by have := blk_lt HRR.out; omega
  have hlt : w.heap.size < w2.heap.size := blk_lt HRR.out
  have g0 : (w2.alloc (.cells #[.int .i64 1, .int .i64 1, .float .f64 9218868437227405312, .float .f64 18442240474082181120, .float .f64 9221120237041090561] 26)).cell? ⟨w2.heap.size, 0, none⟩ = some (.int .i64 1) := (blk_cell (blk_new w2 (.cells #[.int .i64 1, .int .i64 1, .float .f64 9218868437227405312, .float .f64 18442240474082181120, .float .f64 9221120237041090561] 26)) 0).trans rfl
  have g1 : (w2.alloc (.cells #[.int .i64 1, .int .i64 1, .float .f64 9218868437227405312, .float .f64 18442240474082181120, .float .f64 9221120237041090561] 26)).cell? ⟨w2.heap.size, 1, none⟩ = some (.int .i64 1) := (blk_cell (blk_new w2 (.cells #[.int .i64 1, .int .i64 1, .float .f64 9218868437227405312, .float .f64 18442240474082181120, .float .f64 9221120237041090561] 26)) 1).trans rfl
  have g2 : (w2.alloc (.cells #[.int .i64 1, .int .i64 1, .float .f64 9218868437227405312, .float .f64 18442240474082181120, .float .f64 9221120237041090561] 26)).cell? ⟨w2.heap.size, 2, none⟩ = some (.float .f64 9218868437227405312) := (blk_cell (blk_new w2 (.cells #[.int .i64 1, .int .i64 1, .float .f64 9218868437227405312, .float .f64 18442240474082181120, .float .f64 9221120237041090561] 26)) 2).trans rfl
  have g3 : (w2.alloc (.cells #[.int .i64 1, .int .i64 1, .float .f64 9218868437227405312, .float .f64 18442240474082181120, .float .f64 9221120237041090561] 26)).cell? ⟨w2.heap.size, 3, none⟩ = some (.float .f64 18442240474082181120) := (blk_cell (blk_new w2 (.cells #[.int .i64 1, .int .i64 1, .float .f64 9218868437227405312, .float .f64 18442240474082181120, .float .f64 9221120237041090561] 26)) 3).trans rfl
  have g4 : (w2.alloc (.cells #[.int .i64 1, .int .i64 1, .float .f64 9218868437227405312, .float .f64 18442240474082181120, .float .f64 9221120237041090561] 26)).cell? ⟨w2.heap.size, 4, none⟩ = some (.float .f64 9221120237041090561) := (blk_cell (blk_new w2 (.cells #[.int .i64 1, .int .i64 1, .float .f64 9218868437227405312, .float .f64 18442240474082181120, .float .f64 9221120237041090561] 26)) 4).trans rfl
  have HRB := Lib.hid (q1 (.cells #[.int .i64 1, .int .i64 1, .float .f64 9218868437227405312, .float .f64 18442240474082181120, .float .f64 9221120237041090561] 26))
  have HBf := Lib.hid (HB2.out.alloc HB2.out.size (.cells #[.int .i64 1, .int .i64 1, .float .f64 9218868437227405312, .float .f64 18442240474082181120, .float .f64 9221120237041090561] 26))
  clear q1
  go_wp2_with fail
  obtain ⟨Wz, hWz⟩ : ∃ Wz, Wz = ((((((w2.setCell ⟨w.heap.size, 0, none⟩ (.int .i64 1)).setCell ⟨w.heap.size, 1, none⟩ (.int .i64 1)).setCell ⟨w.heap.size, 2, none⟩ (.float .f64 9218868437227405312)).setCell ⟨w.heap.size, 3, none⟩ (.float .f64 18442240474082181120)).setCell ⟨w.heap.size, 4, none⟩ (.float .f64 9221120237041090561)).alloc (.cells #[.int .i64 1, .int .i64 1, .float .f64 9218868437227405312, .float .f64 18442240474082181120, .float .f64 9221120237041090561] 26)) := ⟨_, rfl⟩
  have hz : Wz.heap[w.heap.size]? = some (.cells #[.int .i64 1, .int .i64 1, .float .f64 9218868437227405312, .float .f64 18442240474082181120, .float .f64 9221120237041090561] 26 (0, 0)) := by
    rw [hWz]
    exact (blk_alloc (blk_put (blk_put (blk_put (blk_put (blk_put HRR.out 0 _ rfl) 1 _ rfl) 2 _ rfl) 3 _ rfl) 4 _ rfl) _)
  have hbz : Below w.heap.size w Wz := by
    rw [hWz]
    exact (have h5 := (((((HB2.out.setCell (p := ⟨w.heap.size, 0, none⟩) (Nat.le_refl _) _).setCell (p := ⟨w.heap.size, 1, none⟩) (Nat.le_refl _) _).setCell (p := ⟨w.heap.size, 2, none⟩) (Nat.le_refl _) _).setCell (p := ⟨w.heap.size, 3, none⟩) (Nat.le_refl _) _).setCell (p := ⟨w.heap.size, 4, none⟩) (Nat.le_refl _) _); h5.alloc h5.size _)
  with_reducible change bodyPost _ _ _ _ _ ((((((w2.setCell ⟨w.heap.size, 0, none⟩ (.int .i64 1)).setCell ⟨w.heap.size, 1, none⟩ (.int .i64 1)).setCell ⟨w.heap.size, 2, none⟩ (.float .f64 9218868437227405312)).setCell ⟨w.heap.size, 3, none⟩ (.float .f64 18442240474082181120)).setCell ⟨w.heap.size, 4, none⟩ (.float .f64 9221120237041090561)).alloc (.cells #[.int .i64 1, .int .i64 1, .float .f64 9218868437227405312, .float .f64 18442240474082181120, .float .f64 9221120237041090561] 26))
  rw [← hWz]
  clear hWz r0 r1 r2 r3 r4 f0 f1 f2 f3 f4 g0 g1 g2 g3 g4 hlt
  have r0 : Wz.cell? ⟨w.heap.size, 0, none⟩ = some (.int .i64 1) := (blk_cell hz 0).trans rfl
  have r1 : Wz.cell? ⟨w.heap.size, 1, none⟩ = some (.int .i64 1) := (blk_cell hz 1).trans rfl
  have r2 : Wz.cell? ⟨w.heap.size, 2, none⟩ = some (.float .f64 9218868437227405312) := (blk_cell hz 2).trans rfl
  have r3 : Wz.cell? ⟨w.heap.size, 3, none⟩ = some (.float .f64 18442240474082181120) := (blk_cell hz 3).trans rfl
  have r4 : Wz.cell? ⟨w.heap.size, 4, none⟩ = some (.float .f64 9221120237041090561) := (blk_cell hz 4).trans rfl
  refine bodyPost_ret (v := .agg #[.int .i64 1, .int .i64 1, .float .f64 9218868437227405312, .float .f64 18442240474082181120, .float .f64 9221120237041090561]) ?_ rfl ⟨rfl, hbz⟩
  simp [results, Tryd.results8, go_sem, r0, r1, r2, r3, r4]
set_option maxRecDepth 100000 in
set_option maxHeartbeats 1600000 in
theorem of_mz (gx : Nat) (w : World) (h : w.heap[gx]? = some (.cells (fl [xM]).toArray 24 (0, 0))):
    Calls Tryd.prog 8 #[.slice (some ⟨gx, 0, none⟩) 1 1] w fun e w' => e = .returned (.agg #[.int .i64 1, .int .i64 0, .float .f64 xM, .float .f64 xM, .float .f64 0]) ∧ Below w.heap.size w w' := by
  have HH := Lib.hid h
  clear h
  have a1 := sum_1
  have a4 := cnv_1
  have a5 := quo_1
  go_enter Tryd.func8, Tryd.ntmps8
  go_wp2_with fail
  have hB0 : Below w.heap.size w (w.alloc (.cells #[.int .i64 0, .int .i64 0, .float .f64 0, .float .f64 0, .float .f64 0] 26)) := (Below.refl _ _).alloc (Nat.le_refl _) _
  have hr0 := blk_new w (.cells #[.int .i64 0, .int .i64 0, .float .f64 0, .float .f64 0, .float .f64 0] 26)
  have hA : ∀ z, Below (w.alloc (.cells #[.int .i64 0, .int .i64 0, .float .f64 0, .float .f64 0, .float .f64 0] 26)).heap.size (w.alloc (.cells #[.int .i64 0, .int .i64 0, .float .f64 0, .float .f64 0, .float .f64 0] 26)) z → ∀ k, k < [xM].length → z.cell? ((⟨gx, 0, none⟩ : Addr).add k) = some (.float .f64 ([xM].getD k 0)) := by
    intro z hz k hk
    have hb := blk_below (blk_alloc HH.out (.cells #[.int .i64 0, .int .i64 0, .float .f64 0, .float .f64 0, .float .f64 0] 26)) hz
    have h0 : k = 0 := by simp at hk; exact hk
    subst h0
    rw [add_zero_at]
    exact (blk_cell hb 0).trans rfl
  refine (tsort_any ⟨gx, 0, none⟩ 1 [xM] (by decide) (by decide) (fun q hq => by rw [List.mem_singleton.1 hq]; decide) (w.alloc (.cells #[.int .i64 0, .int .i64 0, .float .f64 0, .float .f64 0, .float .f64 0] 26)) hA).mono ?_
  rintro e w1 ⟨g, cap, T, rfl, HR, hgl, hcap, B1⟩
  have HR1 : RowF T w1 g [xM] := by
    have e1 : srt (canonL [xM]) ([xM].length - 1) = [xM] := by decide +kernel
    rw [← e1]; exact HR
  have hr1 := blk_below hr0 B1
  have hB1 : Below w.heap.size w w1 := hB0.trans (B1.mono hB0.size)
  have hgr : w.heap.size < g := by have := hgl; simp at this; omega
  have HD := Lib.hid (del_none T g cap [xM] (by decide) (one_ok xM (five_ok 1 (by decide))) (one_no xM odM) w1 HR1)
  have HR2 := Lib.hid HR1
  have HRB1 := Lib.hid hr1
  have HB1 := Lib.hid hB1
  have HGR := Lib.hid hgr
  clear HR hA hr0 hr1 hB0 hB1 B1 hgr hgl hcap HR1
  go_wp2_with fail
  refine HD.out.mono ?_
  rintro e w2 ⟨rfl, rfl⟩
  have HX2 := Bx.refl g w1
  obtain ⟨w2, hw2⟩ : ∃ w2, w2 = w1 := ⟨_, rfl⟩
  rw [← hw2] at HX2 HRB1 HB1 HR2 ⊢
  clear hw2 HD
  have hr2 : w2.heap[w.heap.size]? = some (.cells #[.int .i64 0, .int .i64 0, .float .f64 0, .float .f64 0, .float .f64 0] 26) := (HX2.1.block _ HGR.out).trans HRB1.out
  have hB2 : Below w.heap.size w w2 := HB1.out.trans (HX2.1.mono (Nat.le_of_lt HGR.out))
  have HRR := Lib.hid hr2
  have HB2 := Lib.hid hB2
  clear HX2 hr2 hB2 HRB1 HB1
  go_wp2_with fail
  refine (inf_up _).mono ?_
  rintro e w3 ⟨rfl, rfl⟩
  go_wp2_with fail
  refine (inf_down _).mono ?_
  rintro e w3 ⟨rfl, rfl⟩
  go_wp2_with fail
  refine (nan_any _).mono ?_
  rintro e w3 ⟨rfl, rfl⟩
  go_wp2_with fail
  obtain ⟨W3, hW3⟩ : ∃ W3, W3 = w2.alloc (.cells #[.int .i64 1, .int .i64 0, .float .f64 9218868437227405312, .float .f64 18442240474082181120, .float .f64 9221120237041090561] 26) := ⟨_, rfl⟩
  have hB3 : Below w2.heap.size w2 W3 := by rw [hW3]; exact (Below.refl _ _).alloc (Nat.le_refl _) _
  have ht3 : W3.heap[w2.heap.size]? = some (.cells #[.int .i64 1, .int .i64 0, .float .f64 9218868437227405312, .float .f64 18442240474082181120, .float .f64 9221120237041090561] 26) := by rw [hW3]; exact blk_new w2 _
  have hr3 := blk_below HRR.out hB3
  have hne : w.heap.size ≠ w2.heap.size := by have := blk_lt HRR.out; omega
  have hltg : w.heap.size < w2.heap.size := blk_lt HRR.out
  have hR3 := HR2.out.below hB3
  have c0 := hR3.cell 0 (by decide)
  have hgt : g ≠ w2.heap.size := by have := blk_lt HR2.out; omega
  have HLT := Lib.hid hltg
  have HT3 := Lib.hid ht3
  have HR3 := Lib.hid hr3
  have HB3 := Lib.hid (HB2.out.trans (hB3.mono HB2.out.size))
  have HNE := Lib.hid (And.intro hne hgt)
  change Code.wp _ _ _ _ (w2.alloc (.cells #[.int .i64 1, .int .i64 0, .float .f64 9218868437227405312, .float .f64 18442240474082181120, .float .f64 9221120237041090561] 26))
  rw [← hW3]
  clear hW3 hB3 ht3 hr3 hR3 hne hgt hltg HRR HR2 HB2
  generalize w2.heap.size = gt at *
  go_loopw [5, 28] (fun sv iv wr => W3 = wr ∧ ((sv = .float .f64 0 ∧ iv = .int .i64 0) ∨ (sv = .float .f64 0 ∧ iv = .int .i64 1))) (fun _ iv _ => 1 - (RowKit.intOf iv).toNat)
  case atStart => exact ⟨rfl, Or.inl ⟨rfl, rfl⟩⟩
  case round =>
    obtain ⟨rfl, hrel⟩ := hrel
    rcases hrel with ⟨rfl, rfl⟩ | ⟨rfl, rfl⟩
    · go_wp2_with fail
      go_roundw
      case rel => exact ⟨trivial, Or.inr ⟨rfl, rfl⟩⟩
      case measure => simp [RowKit.intOf]
    · have f2 := blk_frozen HT3.out 2
      have f3 := blk_frozen HT3.out 3
      have f4 := blk_frozen HT3.out 4
      have t2 : W3.cell? ⟨gt, 2, none⟩ = some (.float .f64 9218868437227405312) := (blk_cell HT3.out 2).trans rfl
      have t3 : W3.cell? ⟨gt, 3, none⟩ = some (.float .f64 18442240474082181120) := (blk_cell HT3.out 3).trans rfl
      have t4 : W3.cell? ⟨gt, 4, none⟩ = some (.float .f64 9221120237041090561) := (blk_cell HT3.out 4).trans rfl
      have n1 : ¬ gt = g := fun e => HNE.out.2 e.symm
      have n2 : ¬ g = gt := HNE.out.2
      have HW : Hid (∀ u u' u'', (((W3.drew.setCell ⟨gt, 2, none⟩ u).setCell ⟨gt, 3, none⟩ u').setCell ⟨gt, 4, none⟩ u'').heap[gt]? = some (.cells #[.int .i64 1, .int .i64 0, u, u', u''] 26 (0, 0))) := Lib.hid fun u u' u'' => blk_put (blk_put (blk_put (w := W3.drew) HT3.out 2 u rfl) 3 u' rfl) 4 u'' rfl
      go_wp2_with fail
      go_region_with (fail)
      all_goals
        clear t2 t3 t4 n1 n2 f2 f3 f4 c0 a1 a4 a5
        obtain ⟨Wf, hWf⟩ : ∃ Wf, Wf = (((W3.drew.setCell ⟨gt, 2, none⟩ (.float .f64 xM)).setCell ⟨gt, 3, none⟩ (.float .f64 xM)).setCell ⟨gt, 4, none⟩ (.float .f64 0)) := ⟨_, rfl⟩
        change Exit.then _ _ _ _ (((W3.drew.setCell ⟨gt, 2, none⟩ (.float .f64 xM)).setCell ⟨gt, 3, none⟩ (.float .f64 xM)).setCell ⟨gt, 4, none⟩ (.float .f64 0))
        rw [← hWf]
        have hg := HW.out (.float .f64 xM) (.float .f64 xM) (.float .f64 0)
        rw [← hWf] at hg
        have hr : Wf.heap[w.heap.size]? = some (.cells #[.int .i64 0, .int .i64 0, .float .f64 0, .float .f64 0, .float .f64 0] 26 (0, 0)) := by
          rw [hWf, Below.heap_setCell _ _ _ _ HNE.out.1, Below.heap_setCell _ _ _ _ HNE.out.1, Below.heap_setCell _ _ _ _ HNE.out.1]
          exact HR3.out
        have hB : Below w.heap.size w Wf := by
          rw [hWf]
          exact (((HB3.out.drew).setCell (p := ⟨gt, 2, none⟩) (Nat.le_of_lt HLT.out) _).setCell (p := ⟨gt, 3, none⟩) (Nat.le_of_lt HLT.out) _).setCell (p := ⟨gt, 4, none⟩) (Nat.le_of_lt HLT.out) _
        have g0 : Wf.cell? ⟨gt, 0, none⟩ = some (.int .i64 1) := (blk_cell hg 0).trans rfl
        have g1 : Wf.cell? ⟨gt, 1, none⟩ = some (.int .i64 0) := (blk_cell hg 1).trans rfl
        have g2 : Wf.cell? ⟨gt, 2, none⟩ = some (.float .f64 xM) := (blk_cell hg 2).trans rfl
        have g3 : Wf.cell? ⟨gt, 3, none⟩ = some (.float .f64 xM) := (blk_cell hg 3).trans rfl
        have g4 : Wf.cell? ⟨gt, 4, none⟩ = some (.float .f64 0) := (blk_cell hg 4).trans rfl
        have r0 : Wf.cell? ⟨w.heap.size, 0, none⟩ = some (.int .i64 0) := (blk_cell hr 0).trans rfl
        have r1 : Wf.cell? ⟨w.heap.size, 1, none⟩ = some (.int .i64 0) := (blk_cell hr 1).trans rfl
        have r2 : Wf.cell? ⟨w.heap.size, 2, none⟩ = some (.float .f64 0) := (blk_cell hr 2).trans rfl
        have r3 : Wf.cell? ⟨w.heap.size, 3, none⟩ = some (.float .f64 0) := (blk_cell hr 3).trans rfl
        have r4 : Wf.cell? ⟨w.heap.size, 4, none⟩ = some (.float .f64 0) := (blk_cell hr 4).trans rfl
        have f0 := blk_frozen hr 0
        have f1 := blk_frozen hr 1
        have f2 := blk_frozen hr 2
        have f3 := blk_frozen hr 3
        have f4 := blk_frozen hr 4
        have hlt := blk_lt hr
        have HBf := Lib.hid hB
        have HRB := Lib.hid hr
        clear hg hr hB hWf
        go_wp2_with fail
        obtain ⟨Wz, hWz⟩ : ∃ Wz, Wz = (((((Wf.setCell ⟨w.heap.size, 0, none⟩ (.int .i64 1)).setCell ⟨w.heap.size, 1, none⟩ (.int .i64 0)).setCell ⟨w.heap.size, 2, none⟩ (.float .f64 xM)).setCell ⟨w.heap.size, 3, none⟩ (.float .f64 xM)).setCell ⟨w.heap.size, 4, none⟩ (.float .f64 0)) := ⟨_, rfl⟩
        have hz : Wz.heap[w.heap.size]? = some (.cells #[.int .i64 1, .int .i64 0, .float .f64 xM, .float .f64 xM, .float .f64 0] 26 (0, 0)) := by
          rw [hWz]
          exact blk_put (blk_put (blk_put (blk_put (blk_put HRB.out 0 _ rfl) 1 _ rfl) 2 _ rfl) 3 _ rfl) 4 _ rfl
        have hbz : Below w.heap.size w Wz := by
          rw [hWz]
          exact ((((HBf.out.setCell (p := ⟨w.heap.size, 0, none⟩) (Nat.le_refl _) _).setCell (p := ⟨w.heap.size, 1, none⟩) (Nat.le_refl _) _).setCell (p := ⟨w.heap.size, 2, none⟩) (Nat.le_refl _) _).setCell (p := ⟨w.heap.size, 3, none⟩) (Nat.le_refl _) _).setCell (p := ⟨w.heap.size, 4, none⟩) (Nat.le_refl _) _
        with_reducible change bodyPost _ _ _ _ _ (((((Wf.setCell ⟨w.heap.size, 0, none⟩ (.int .i64 1)).setCell ⟨w.heap.size, 1, none⟩ (.int .i64 0)).setCell ⟨w.heap.size, 2, none⟩ (.float .f64 xM)).setCell ⟨w.heap.size, 3, none⟩ (.float .f64 xM)).setCell ⟨w.heap.size, 4, none⟩ (.float .f64 0))
        rw [← hWz]
        clear hWz r0 r1 r2 r3 r4 f0 f1 f2 f3 f4 g0 g1 g2 g3 g4 hlt
        have r0 : Wz.cell? ⟨w.heap.size, 0, none⟩ = some (.int .i64 1) := (blk_cell hz 0).trans rfl
        have r1 : Wz.cell? ⟨w.heap.size, 1, none⟩ = some (.int .i64 0) := (blk_cell hz 1).trans rfl
        have r2 : Wz.cell? ⟨w.heap.size, 2, none⟩ = some (.float .f64 xM) := (blk_cell hz 2).trans rfl
        have r3 : Wz.cell? ⟨w.heap.size, 3, none⟩ = some (.float .f64 xM) := (blk_cell hz 3).trans rfl
        have r4 : Wz.cell? ⟨w.heap.size, 4, none⟩ = some (.float .f64 0) := (blk_cell hz 4).trans rfl
        refine bodyPost_ret (v := .agg #[.int .i64 1, .int .i64 0, .float .f64 xM, .float .f64 xM, .float .f64 0]) ?_ rfl ⟨rfl, hbz⟩
        simp [results, Tryd.results8, go_sem, r0, r1, r2, r3, r4]
end Go.Proofs.YtedllapajgcfeaaDoor
