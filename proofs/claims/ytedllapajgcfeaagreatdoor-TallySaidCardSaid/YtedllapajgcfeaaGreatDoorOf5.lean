/-
  tally.Of at awake's five numbers: walked.
-/
import Derived.Test.YtedllapajgcfeaaGreatDoorDel
namespace Go.Proofs.YtedllapajgcfeaaGreatDoor
set_option linter.unusedVariables false
set_option linter.unusedSimpArgs false
open Go.RowKit Go.Proofs.YtedllapajgcfeaaGreatDoorW.PrintWords

def x1 : Nat := 4607182418800017408
def xD : Nat := 18442240474082181120
theorem add_zero_at (g n : Nat) : (⟨g, 0, none⟩ : Addr).add n = ⟨g, n, none⟩ := by unfold Addr.add; split <;> simp_all
theorem inf_up (w : World) : Calls Tryz.prog 18 #[.int .i64 1] w fun e w' => e = .returned (.float .f64 9218868437227405312) ∧ w = w' := by
  go_enter Tryz.func18, Tryz.ntmps18
  go_wp2
  go_ret
  exact ⟨rfl, rfl⟩
theorem inf_down (w : World) : Calls Tryz.prog 18 #[.int .i64 (-1)] w fun e w' => e = .returned (.float .f64 18442240474082181120) ∧ w = w' := by
  go_enter Tryz.func18, Tryz.ntmps18
  go_wp2
  go_ret
  exact ⟨rfl, rfl⟩
theorem minus_any (w : World) : Calls Tryz.prog 16 #[] w fun e w' => e = .returned (.float .f64 xM) ∧ w = w' := by
  have b1 : bits .andNot .u64 0 9223372036854775808 = 0 := by decide +kernel
  have b2 : bits .and .u64 13830554455654793216 9223372036854775808 = 9223372036854775808 := by decide +kernel
  have b3 : bits .or .u64 0 9223372036854775808 = 9223372036854775808 := by decide +kernel
  go_enter Tryz.func16, Tryz.ntmps16
  go_wp2
  go_ret
  exact ⟨rfl, rfl⟩
theorem five_srt : srt (canonL [x3, xM, 0, xN, xI]) 4 = [xN, xM, 0, x3, xI] := by decide +kernel
theorem five_64 : Fin64 [x3, xM, 0, xN, xI] := by
  intro x hx
  simp only [List.mem_cons, List.not_mem_nil, or_false] at hx
  rcases hx with rfl | rfl | rfl | rfl | rfl <;> decide
theorem sum_1 (W : World) : (binOp .add 22 (.float .f64 0) (.float .f64 xM)).run Tryz.prog W = .ok (.float .f64 0) W := by kernel_rfl
theorem sum_2 (W : World) : (binOp .add 22 (.float .f64 0) (.float .f64 0)).run Tryz.prog W = .ok (.float .f64 0) W := by kernel_rfl
theorem sum_3 (W : World) : (binOp .add 22 (.float .f64 0) (.float .f64 x3)).run Tryz.prog W = .ok (.float .f64 x3) W := by kernel_rfl
theorem cnv_3 (W : World) : (convert 3 22 (.int .i64 3)).run Tryz.prog W = .ok (.float .f64 x3) W := by kernel_rfl
theorem quo_3 (W : World) : (binOp .quo 22 (.float .f64 x3) (.float .f64 x3)).run Tryz.prog W = .ok (.float .f64 x1) W := by kernel_rfl
set_option maxRecDepth 100000 in
set_option maxHeartbeats 1600000 in
theorem of_five (gx : Nat) (w : World) (h : w.heap[gx]? = some (.cells (fl [x3, xM, 0, xN, xI]).toArray 22 (0, 0))) :
    Calls Tryz.prog 10 #[.slice (some ⟨gx, 0, none⟩) 5 5] w fun e w' => e = .returned (.agg #[.int .i64 5, .int .i64 2, .float .f64 xM, .float .f64 x3, .float .f64 x1]) ∧ Below w.heap.size w w' := by
  have HH := Lib.hid h
  have a1 := sum_1
  have a2 := sum_2
  have a3 := sum_3
  have a4 := cnv_3
  have a5 := quo_3
  clear h
  go_enter Tryz.func10, Tryz.ntmps10
  go_wp2_with fail
  have hB0 : Below w.heap.size w (w.alloc (.cells #[.int .i64 0, .int .i64 0, .float .f64 0, .float .f64 0, .float .f64 0] 34)) := (Below.refl _ _).alloc (Nat.le_refl _) _
  have hr0 := blk_new w (.cells #[.int .i64 0, .int .i64 0, .float .f64 0, .float .f64 0, .float .f64 0] 34)
  have hA : ∀ z, Below (w.alloc (.cells #[.int .i64 0, .int .i64 0, .float .f64 0, .float .f64 0, .float .f64 0] 34)).heap.size (w.alloc (.cells #[.int .i64 0, .int .i64 0, .float .f64 0, .float .f64 0, .float .f64 0] 34)) z → ∀ k, k < [x3, xM, 0, xN, xI].length → z.cell? ((⟨gx, 0, none⟩ : Addr).add k) = some (.float .f64 ([x3, xM, 0, xN, xI].getD k 0)) := by
    intro z hz k hk
    have hb := blk_below (blk_alloc HH.out (.cells #[.int .i64 0, .int .i64 0, .float .f64 0, .float .f64 0, .float .f64 0] 34)) hz
    have h5 : k < 5 := hk
    rw [add_zero_at]
    obtain rfl | rfl | rfl | rfl | rfl : k = 0 ∨ k = 1 ∨ k = 2 ∨ k = 3 ∨ k = 4 := by omega
    · exact (blk_cell hb 0).trans rfl
    · exact (blk_cell hb 1).trans rfl
    · exact (blk_cell hb 2).trans rfl
    · exact (blk_cell hb 3).trans rfl
    · exact (blk_cell hb 4).trans rfl
  refine (tsort_any ⟨gx, 0, none⟩ 5 [x3, xM, 0, xN, xI] (by decide) (by decide) five_64 (w.alloc (.cells #[.int .i64 0, .int .i64 0, .float .f64 0, .float .f64 0, .float .f64 0] 34)) hA).mono ?_
  rintro e w1 ⟨g, cap, T, rfl, HR, hgl, hcap, B1⟩
  have HR1 : RowF T w1 g [xN, xM, 0, x3, xI] := by rw [← five_srt]; exact HR
  have hr1 := blk_below hr0 B1
  have hB1 : Below w.heap.size w w1 := hB0.trans (B1.mono hB0.size)
  have hgr : w.heap.size < g := by have := hgl; simp at this; omega
  have HD := Lib.hid (del_five T g cap hcap w1 HR1)
  have HR1 := Lib.hid hr1
  have HB1 := Lib.hid hB1
  have HGR := Lib.hid hgr
  clear HR hA hr0 hr1 hB0 hB1 B1 hgr hgl hcap
  go_wp2_with fail
  refine HD.out.mono ?_
  rintro e w2 ⟨cap2, T2, rfl, HR2, HX2⟩
  have hr2 : w2.heap[w.heap.size]? = some (.cells #[.int .i64 0, .int .i64 0, .float .f64 0, .float .f64 0, .float .f64 0] 34) := (HX2.1.block _ HGR.out).trans HR1.out
  have hB2 : Below w.heap.size w w2 := HB1.out.trans (HX2.1.mono (Nat.le_of_lt HGR.out))
  have HRR := Lib.hid hr2
  have HB2 := Lib.hid hB2
  have HR2 := Lib.hid HR2
  clear HD HX2 hr2 hB2 HR1 HB1
  go_wp2_with fail
  refine (inf_up _).mono ?_
  rintro e w3 ⟨rfl, rfl⟩
  go_wp2_with fail
  refine (inf_down _).mono ?_
  rintro e w3 ⟨rfl, rfl⟩
  go_wp2_with fail
  refine (nan_any _).mono ?_
  rintro e w3 ⟨rfl, rfl⟩
  go_wp2_with fail
  obtain ⟨W3, hW3⟩ : ∃ W3, W3 = w2.alloc (.cells #[.int .i64 5, .int .i64 2, .float .f64 9218868437227405312, .float .f64 18442240474082181120, .float .f64 9221120237041090561] 34) := ⟨_, rfl⟩
  have hB3 : Below w2.heap.size w2 W3 := by rw [hW3]; exact (Below.refl _ _).alloc (Nat.le_refl _) _
  have ht3 : W3.heap[w2.heap.size]? = some (.cells #[.int .i64 5, .int .i64 2, .float .f64 9218868437227405312, .float .f64 18442240474082181120, .float .f64 9221120237041090561] 34) := by rw [hW3]; exact blk_new w2 _
  have hr3 := blk_below HRR.out hB3
  have hR3 := HR2.out.below hB3
  have c0 := hR3.cell 0 (by decide)
  have c1 := hR3.cell 1 (by decide)
  have c2 := hR3.cell 2 (by decide)
  have hne : w.heap.size ≠ w2.heap.size := by have := blk_lt HRR.out; omega
  have hgt : g ≠ w2.heap.size := by have := blk_lt HR2.out; omega
  have hltg : w.heap.size < w2.heap.size := blk_lt HRR.out
  have HLT := Lib.hid hltg
  have HT3 := Lib.hid ht3
  have HR3 := Lib.hid hr3
  have HRO := Lib.hid hR3
  have HB3 := Lib.hid (HB2.out.trans (hB3.mono HB2.out.size))
  have HNE := Lib.hid (And.intro hne hgt)
  change Code.wp _ _ _ _ (w2.alloc (.cells #[.int .i64 5, .int .i64 2, .float .f64 9218868437227405312, .float .f64 18442240474082181120, .float .f64 9221120237041090561] 34))
  rw [← hW3]
  clear hW3 hB3 ht3 hr3 hR3 hne hgt hltg HRR HR2 HB2
  generalize w2.heap.size = gt at *
  go_loopw [5, 28] (fun sv iv wr => W3 = wr ∧ ((sv = .float .f64 0 ∧ iv = .int .i64 0) ∨ (sv = .float .f64 0 ∧ iv = .int .i64 1) ∨ (sv = .float .f64 0 ∧ iv = .int .i64 2) ∨ (sv = .float .f64 x3 ∧ iv = .int .i64 3))) (fun _ iv _ => 3 - (RowKit.intOf iv).toNat)
  case atStart => exact ⟨rfl, Or.inl ⟨rfl, rfl⟩⟩
  case round =>
    obtain ⟨rfl, hrel⟩ := hrel
    rcases hrel with ⟨rfl, rfl⟩ | ⟨rfl, rfl⟩ | ⟨rfl, rfl⟩ | ⟨rfl, rfl⟩
    · go_wp2_with fail
      go_roundw
      case rel => exact ⟨trivial, Or.inr (Or.inl ⟨rfl, rfl⟩)⟩
      case measure => simp [RowKit.intOf]
    · go_wp2_with fail
      go_roundw
      case rel => exact ⟨trivial, Or.inr (Or.inr (Or.inl ⟨rfl, rfl⟩))⟩
      case measure => simp [RowKit.intOf]
    · go_wp2_with fail
      go_roundw
      case rel => exact ⟨trivial, Or.inr (Or.inr (Or.inr ⟨rfl, rfl⟩))⟩
      case measure => simp [RowKit.intOf]
    · have f2 := blk_frozen HT3.out 2
      have f3 := blk_frozen HT3.out 3
      have f4 := blk_frozen HT3.out 4
      have t2 : W3.cell? ⟨gt, 2, none⟩ = some (.float .f64 9218868437227405312) := (blk_cell HT3.out 2).trans rfl
      have t3 : W3.cell? ⟨gt, 3, none⟩ = some (.float .f64 18442240474082181120) := (blk_cell HT3.out 3).trans rfl
      have t4 : W3.cell? ⟨gt, 4, none⟩ = some (.float .f64 9221120237041090561) := (blk_cell HT3.out 4).trans rfl
      have n1 : ¬ gt = g := fun e => HNE.out.2 e.symm
      have n2 : ¬ g = gt := HNE.out.2
      have HW : Hid (∀ u u' u'', (((W3.drew.setCell ⟨gt, 2, none⟩ u).setCell ⟨gt, 3, none⟩ u').setCell ⟨gt, 4, none⟩ u'').heap[gt]? = some (.cells #[.int .i64 5, .int .i64 2, u, u', u''] 34 (0, 0))) := Lib.hid fun u u' u'' => blk_put (blk_put (blk_put (w := W3.drew) HT3.out 2 u rfl) 3 u' rfl) 4 u'' rfl
      go_wp2_with fail
      go_region_with (fail)
      all_goals
        clear t2 t3 t4 n1 n2 f2 f3 f4 c0 c1 c2 a1 a2 a3 a4 a5
        obtain ⟨Wf, hWf⟩ : ∃ Wf, Wf = (((W3.drew.setCell ⟨gt, 2, none⟩ (.float .f64 xM)).setCell ⟨gt, 3, none⟩ (.float .f64 x3)).setCell ⟨gt, 4, none⟩ (.float .f64 x1)) := ⟨_, rfl⟩
        change Exit.then _ _ _ _ (((W3.drew.setCell ⟨gt, 2, none⟩ (.float .f64 xM)).setCell ⟨gt, 3, none⟩ (.float .f64 x3)).setCell ⟨gt, 4, none⟩ (.float .f64 x1))
        rw [← hWf]
        have hg := HW.out (.float .f64 xM) (.float .f64 x3) (.float .f64 x1)
        rw [← hWf] at hg
        have hr : Wf.heap[w.heap.size]? = some (.cells #[.int .i64 0, .int .i64 0, .float .f64 0, .float .f64 0, .float .f64 0] 34 (0, 0)) := by
          rw [hWf, Below.heap_setCell _ _ _ _ HNE.out.1, Below.heap_setCell _ _ _ _ HNE.out.1, Below.heap_setCell _ _ _ _ HNE.out.1]
          exact HR3.out
        have hB : Below w.heap.size w Wf := by
          rw [hWf]
          exact (((HB3.out.drew).setCell (p := ⟨gt, 2, none⟩) (Nat.le_of_lt HLT.out) _).setCell (p := ⟨gt, 3, none⟩) (Nat.le_of_lt HLT.out) _).setCell (p := ⟨gt, 4, none⟩) (Nat.le_of_lt HLT.out) _
        have g0 : Wf.cell? ⟨gt, 0, none⟩ = some (.int .i64 5) := (blk_cell hg 0).trans rfl
        have g1 : Wf.cell? ⟨gt, 1, none⟩ = some (.int .i64 2) := (blk_cell hg 1).trans rfl
        have g2 : Wf.cell? ⟨gt, 2, none⟩ = some (.float .f64 xM) := (blk_cell hg 2).trans rfl
        have g3 : Wf.cell? ⟨gt, 3, none⟩ = some (.float .f64 x3) := (blk_cell hg 3).trans rfl
        have g4 : Wf.cell? ⟨gt, 4, none⟩ = some (.float .f64 x1) := (blk_cell hg 4).trans rfl
        have r0 : Wf.cell? ⟨w.heap.size, 0, none⟩ = some (.int .i64 0) := (blk_cell hr 0).trans rfl
        have r1 : Wf.cell? ⟨w.heap.size, 1, none⟩ = some (.int .i64 0) := (blk_cell hr 1).trans rfl
        have r2 : Wf.cell? ⟨w.heap.size, 2, none⟩ = some (.float .f64 0) := (blk_cell hr 2).trans rfl
        have r3 : Wf.cell? ⟨w.heap.size, 3, none⟩ = some (.float .f64 0) := (blk_cell hr 3).trans rfl
        have r4 : Wf.cell? ⟨w.heap.size, 4, none⟩ = some (.float .f64 0) := (blk_cell hr 4).trans rfl
        have f0 := blk_frozen hr 0
        have f1 := blk_frozen hr 1
        have f2 := blk_frozen hr 2
        have f3 := blk_frozen hr 3
        have f4 := blk_frozen hr 4
        have hlt := blk_lt hr
        have HBf := Lib.hid hB
        have HRB := Lib.hid hr
        clear hg hr hB hWf
        go_wp2_with fail
        obtain ⟨Wz, hWz⟩ : ∃ Wz, Wz = (((((Wf.setCell ⟨w.heap.size, 0, none⟩ (.int .i64 5)).setCell ⟨w.heap.size, 1, none⟩ (.int .i64 2)).setCell ⟨w.heap.size, 2, none⟩ (.float .f64 xM)).setCell ⟨w.heap.size, 3, none⟩ (.float .f64 x3)).setCell ⟨w.heap.size, 4, none⟩ (.float .f64 x1)) := ⟨_, rfl⟩
        have hz : Wz.heap[w.heap.size]? = some (.cells #[.int .i64 5, .int .i64 2, .float .f64 xM, .float .f64 x3, .float .f64 x1] 34 (0, 0)) := by
          rw [hWz]
          exact blk_put (blk_put (blk_put (blk_put (blk_put HRB.out 0 _ rfl) 1 _ rfl) 2 _ rfl) 3 _ rfl) 4 _ rfl
        have hbz : Below w.heap.size w Wz := by
          rw [hWz]
          exact ((((HBf.out.setCell (p := ⟨w.heap.size, 0, none⟩) (Nat.le_refl _) _).setCell (p := ⟨w.heap.size, 1, none⟩) (Nat.le_refl _) _).setCell (p := ⟨w.heap.size, 2, none⟩) (Nat.le_refl _) _).setCell (p := ⟨w.heap.size, 3, none⟩) (Nat.le_refl _) _).setCell (p := ⟨w.heap.size, 4, none⟩) (Nat.le_refl _) _
        with_reducible change bodyPost _ _ _ _ _ (((((Wf.setCell ⟨w.heap.size, 0, none⟩ (.int .i64 5)).setCell ⟨w.heap.size, 1, none⟩ (.int .i64 2)).setCell ⟨w.heap.size, 2, none⟩ (.float .f64 xM)).setCell ⟨w.heap.size, 3, none⟩ (.float .f64 x3)).setCell ⟨w.heap.size, 4, none⟩ (.float .f64 x1))
        rw [← hWz]
        clear hWz r0 r1 r2 r3 r4 f0 f1 f2 f3 f4 g0 g1 g2 g3 g4 hlt
        have r0 : Wz.cell? ⟨w.heap.size, 0, none⟩ = some (.int .i64 5) := (blk_cell hz 0).trans rfl
        have r1 : Wz.cell? ⟨w.heap.size, 1, none⟩ = some (.int .i64 2) := (blk_cell hz 1).trans rfl
        have r2 : Wz.cell? ⟨w.heap.size, 2, none⟩ = some (.float .f64 xM) := (blk_cell hz 2).trans rfl
        have r3 : Wz.cell? ⟨w.heap.size, 3, none⟩ = some (.float .f64 x3) := (blk_cell hz 3).trans rfl
        have r4 : Wz.cell? ⟨w.heap.size, 4, none⟩ = some (.float .f64 x1) := (blk_cell hz 4).trans rfl
        refine bodyPost_ret (v := .agg #[.int .i64 5, .int .i64 2, .float .f64 xM, .float .f64 x3, .float .f64 x1]) ?_ rfl ⟨rfl, hbz⟩
        simp [results, Tryz.results10, go_sem, r0, r1, r2, r3, r4]
end Go.Proofs.YtedllapajgcfeaaGreatDoor
