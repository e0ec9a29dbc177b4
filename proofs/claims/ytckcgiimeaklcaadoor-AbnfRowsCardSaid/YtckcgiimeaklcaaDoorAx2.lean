/-
  The reader's adds: walked.
-/
import Derived.Test.YtckcgiimeaklcaaDoorAx1
import Derived.Deep.RegionLaw
import Derived.BigRegion
import Derived.Deep.DeepCutAuto
namespace Go.Proofs.YtckcgiimeaklcaaDoor
set_option linter.unusedVariables false
set_option linter.unusedSimpArgs false
open Go.RowKit Go.Proofs.YtckcgiimeaklcaaDoorW.PrintWords
open Ab (T El R Rs sz rootI post els root hasR szs)

section
variable {ops : Array Oper} {o : Oper} {a : Act} {Q : Exit → Act → World → Prop} {K : Act → World → Prop}
/-- One element more behind those that there are: a step of a drawn region. -/
theorem step_elem {X Y : World} (W : World) {base gg gr bm : Nat} {l : List UInt8} {ln : Int} {op : Nat} {es : List El} {ls : List Int} {rs : Rs} {vE vL : Value} (x : El) (h : RSv X base gg gr bm l ln op es ls rs vE vL)
    (s y : Operand) (hw : Region.wanted o (yielded ops a.tmps) = true) (ho : o.op = .call { callee := .builtin .append, args := #[s, y], argTypes := #[34, 34] })
    (hs : a.eval s = vE) (hx : a.eval y = .slice (some ⟨W.heap.size, 0, none⟩) 1 1) (hW : Below X.heap.size X W) (hY : Y = W.alloc (.cells (elC x).toArray 45))
    (k : ∀ A1 cap1 w1, Hid (w1.ownsRow base 45 6 (.slice A1 (es.length + 1) cap1) (es.length + 1) ((es ++ [x]).flatMap elC) ∧ Kp base gg bm X w1 ∧ X.grownBy w1 vE.ownBlock) →
      w1.cell? ⟨gg, 0, none⟩ = some vE → w1.frozen? ⟨gg, 0, none⟩ = false → w1.cell? ⟨gr, 0, none⟩ = some (.pointer (some ⟨gg, 0, none⟩)) → K (a.put o.dst (.slice A1 (es.length + 1) cap1)) w1) :
    if Region.wanted o (yielded ops a.tmps) = true then Oper.wp Tryd.prog o a Y K Q else K (a.put o.dst undef) Y := by
  subst hY
  have happ : es.flatMap elC ++ elC x = (es ++ [x]).flatMap elC := by rw [List.flatMap_append]; simp
  have hz : (es.length + 1) * 56 ≤ 140737488355328 := by have := h.le; omega
  have hX := h.below hW
  refine step_append_cells (w0 := W) base hw s y 34 45 (.agg #[.int .i64 0, .string ⟨#[]⟩, .int .i64 0, .int .i64 0, .int .i64 0, .int .i64 0]) 6 56 ho Tryd.underlying34 (by kernel_rfl) (by rfl) (by decide) (by decide) vE es.length (es.flatMap elC) (elC x) hs hx (by rfl) (by simp [elC, Value.oneCell']) hX.rE (Below.refl _ _) hX.lt hz ?_
  intro v1 w1 hown hb1 hg1 hat1
  rw [happ] at hown
  obtain ⟨A1, cap1, rfl⟩ := own_slice hown
  have hgb := blk_grown hX.gblk hg1 (own_ne hX.rE hX.gblk (by decide))
  have hrb := blk_grown hX.blk hg1 (own_ne hX.rE hX.blk (by decide))
  have hgX : X.grownBy w1 vE.ownBlock := World.grownBy.trans (grown_of_below hW _) hg1
  exact k A1 cap1 w1 (Lib.hid ⟨hown, (Kp.refl _ _ _ _).grown h.lt hgX (fun k hk => Or.inl (own_base h.rE k hk)) (fun k v _ _ hv => own_ne h.rE hv (by decide)), hgX⟩) ((blk_cell hgb 0).trans rfl) (blk_frozen hgb 0) ((blk_cell hrb 0).trans rfl)
/-- One line more. -/
theorem step_line {X Y : World} (W : World) {base gg gr bm : Nat} {l : List UInt8} {ln : Int} {op : Nat} {es : List El} {ls : List Int} {rs : Rs} {vE vL : Value} (x : Int) (h : RSv X base gg gr bm l ln op es ls rs vE vL)
    (s y : Operand) (hw : Region.wanted o (yielded ops a.tmps) = true) (ho : o.op = .call { callee := .builtin .append, args := #[s, y], argTypes := #[35, 35] })
    (hs : a.eval s = vL) (hx : a.eval y = .slice (some ⟨W.heap.size, 0, none⟩) 1 1) (hW : Below X.heap.size X W) (hY : Y = W.alloc (.cells #[.int .i64 x] 3))
    (k : ∀ A1 cap1 w1, Hid (w1.ownsRow base 3 1 (.slice A1 (ls.length + 1) cap1) (ls.length + 1) (encs lnC (ls ++ [x])) ∧ Kp base gg bm X w1 ∧ X.grownBy w1 vL.ownBlock) →
      w1.cell? ⟨gg, 2, none⟩ = some vL → w1.frozen? ⟨gg, 2, none⟩ = false → w1.cell? ⟨gr, 0, none⟩ = some (.pointer (some ⟨gg, 0, none⟩)) → K (a.put o.dst (.slice A1 (ls.length + 1) cap1)) w1) :
    if Region.wanted o (yielded ops a.tmps) = true then Oper.wp Tryd.prog o a Y K Q else K (a.put o.dst undef) Y := by
  subst hY
  have happ : encs lnC ls ++ [Value.int .i64 x] = encs lnC (ls ++ [x]) := by unfold encs lnC; rw [List.map_append]; rfl
  have hz : (ls.length + 1) * 8 ≤ 140737488355328 := by have := h.le; have := h.len; omega
  have hX := h.below hW
  refine step_append_cells (w0 := W) base hw s y 35 3 (.int .i64 0) 1 8 ho Tryd.underlying35 (by kernel_rfl) (by rfl) (by decide) (by decide) vL ls.length (encs lnC ls) [.int .i64 x] hs hx (by rfl) (by simp [Value.oneCell']) hX.rL (Below.refl _ _) hX.lt hz ?_
  intro v1 w1 hown hb1 hg1 hat1
  rw [happ] at hown
  obtain ⟨A1, cap1, rfl⟩ := own_slice hown
  have hgb := blk_grown hX.gblk hg1 (own_ne hX.rL hX.gblk (by decide))
  have hrb := blk_grown hX.blk hg1 (own_ne hX.rL hX.blk (by decide))
  have hgX : X.grownBy w1 vL.ownBlock := World.grownBy.trans (grown_of_below hW _) hg1
  exact k A1 cap1 w1 (Lib.hid ⟨hown, (Kp.refl _ _ _ _).grown h.lt hgX (fun k hk => Or.inl (own_base h.rL k hk)) (fun k v _ _ hv => own_ne h.rL hv (by decide)), hgX⟩) ((blk_cell hgb 2).trans rfl) (blk_frozen hgb 2) ((blk_cell hrb 0).trans rfl)
end
section
variable {w0 w X w1 : World} {base gg gr bm : Nat} {l : List UInt8} {ln : Int} {op : Nat} {es : List El} {ls : List Int} {rs : Rs} {vE vL : Value}
theorem RSv.addE {x : El} {v1 : Value} (h : RSv X base gg gr bm l ln op es ls rs vE vL) (ho : w1.ownsRow base 45 6 v1 (es.length + 1) ((es ++ [x]).flatMap elC)) (hK : Kp base gg bm X w1) (hg : X.grownBy w1 vE.ownBlock) (hn : es.length ≠ 1500) :
    RSv (w1.setCell ⟨gg, 0, none⟩ v1) base gg gr bm l ln op (es ++ [x]) ls rs v1 vL := by
  have hgb := blk_grown h.gblk hg (own_ne h.rE h.gblk (by decide))
  have hrb := blk_grown h.blk hg (own_ne h.rE h.blk (by decide))
  have hm : MapAt w1 bm rs := h.map.grown hg (fun e => by have := own_base h.rE bm e.symm; have := h.bmlt; omega)
  have hg2 : w1.grownBy (w1.setCell ⟨gg, 0, none⟩ v1) (some gg) := ⟨rfl, rfl, rfl, by simp, fun k hk hn => Below.heap_setCell w1 ⟨gg, 0, none⟩ v1 k (fun e => hn (by rw [e]))⟩
  have hle := h.le
  refine ⟨blk_far hrb (p := ⟨gg, 0, none⟩) (fun e => h.ne_g e.symm) v1, blk_set hgb 0 v1, hm.grown hg2 (fun e => by injection e with e; exact hm.ne hgb e), ?_, ?_, h.bg, h.bmlt, by have := h.len; simp; omega, by simp; omega, h.ll, h.op, mx_kp h.mx (hK.setCell (p := ⟨gg, 0, none⟩) (Or.inr rfl) v1) h.p0, h.p0⟩
  · have := own_setCell ho (p := ⟨gg, 0, none⟩) (own_ne ho hgb (by decide)) v1
    simpa using this
  · have hl := own_other h.rL hg (own_type_ne h.rL h.rE (by decide))
    exact own_setCell hl (p := ⟨gg, 0, none⟩) (own_ne hl hgb (by decide)) v1
theorem RSv.addL {x : Int} {v1 : Value} (h : RSv X base gg gr bm l ln op es ls rs vE vL) (ho : w1.ownsRow base 3 1 v1 (ls.length + 1) (encs lnC (ls ++ [x]))) (hK : Kp base gg bm X w1) (hg : X.grownBy w1 vL.ownBlock) (hn : ls.length < es.length) :
    RSv (w1.setCell ⟨gg, 2, none⟩ v1) base gg gr bm l ln op es (ls ++ [x]) rs vE v1 := by
  have hgb := blk_grown h.gblk hg (own_ne h.rL h.gblk (by decide))
  have hrb := blk_grown h.blk hg (own_ne h.rL h.blk (by decide))
  have hm : MapAt w1 bm rs := h.map.grown hg (fun e => by have := own_base h.rL bm e.symm; have := h.bmlt; omega)
  have hg2 : w1.grownBy (w1.setCell ⟨gg, 2, none⟩ v1) (some gg) := ⟨rfl, rfl, rfl, by simp, fun k hk hn => Below.heap_setCell w1 ⟨gg, 2, none⟩ v1 k (fun e => hn (by rw [e]))⟩
  refine ⟨blk_far hrb (p := ⟨gg, 2, none⟩) (fun e => h.ne_g e.symm) v1, blk_set hgb 2 v1, hm.grown hg2 (fun e => by injection e with e; exact hm.ne hgb e), ?_, ?_, h.bg, h.bmlt, by simp; omega, h.le, h.ll, h.op, mx_kp h.mx (hK.setCell (p := ⟨gg, 2, none⟩) (Or.inr rfl) v1) h.p0, h.p0⟩
  · have hl := own_other h.rE hg (own_type_ne h.rE h.rL (by decide))
    exact own_setCell hl (p := ⟨gg, 2, none⟩) (own_ne hl hgb (by decide)) v1
  · have := own_setCell ho (p := ⟨gg, 2, none⟩) (own_ne ho hgb (by decide)) v1
    simpa using this
set_option maxHeartbeats 3200000 in
theorem adds_long (x : El) (hn : es.length = 1500) (h : RSv w base gg gr bm l ln op es ls rs vE vL) : Calls Tryd.prog 42 #[.pointer (some ⟨gr, 0, none⟩), .agg (elC x).toArray] w fun e w' => e = .panicked (flt 3) ∧ Kp base gg bm w w' := by
  obtain ⟨A, c, rfl⟩ := own_slice h.rE
  have H := Lib.hid h
  have hB : Below w.heap.size w (w.alloc (.cells (elC x).toArray 45)) := (Below.refl _ _).alloc (Nat.le_refl _) _
  have h1 := h.below hB
  have HK := Lib.hid (h.kp hB)
  obtain ⟨c0, c1, c2, c3⟩ := h1.cells
  obtain ⟨d0, d1, d2⟩ := h1.gcells
  have ht : ((es.length : Int) == 1500) = true := by rw [hn]; rfl
  clear h h1 hB hn
  go_enter Tryd.func42, Tryd.ntmps42
  go_wp2_with fail
  refine (fails_any 3).mono ?_
  rintro e w2 ⟨rfl, rfl⟩
  exact ⟨rfl, rfl, HK.out⟩
set_option maxRecDepth 100000 in
set_option maxHeartbeats 6400000 in
theorem adds_any (x : El) (hn : es.length ≠ 1500) (hl : ls.length = es.length) (h : RSv w base gg gr bm l ln op es ls rs vE vL) : Calls Tryd.prog 42 #[.pointer (some ⟨gr, 0, none⟩), .agg (elC x).toArray] w fun e w' => e = .returned (.int .i64 es.length) ∧ RS w' base gg gr bm l ln op (es ++ [x]) (ls ++ [ln]) rs ∧ Kp base gg bm w w' := by
  obtain ⟨A, c, rfl⟩ := own_slice h.rE
  have H := Lib.hid h
  have hB0 : Below w.heap.size w (w.alloc (.cells (elC x).toArray 45)) := (Below.refl _ _).alloc (Nat.le_refl _) _
  obtain ⟨e0, e1, e2, e3⟩ := (h.below hB0).cells
  obtain ⟨f0, f1, f2⟩ := (h.below hB0).gcells
  have HN := Lib.hid (And.intro hn hl)
  have ht : ((es.length : Int) == 1500) = false := by simp; omega
  have HB0 := Lib.hid hB0
  clear h hB0 hn hl
  go_enter Tryd.func42, Tryd.ntmps42
  go_wp2_with fail
  obtain ⟨X, hX⟩ : ∃ X, X = w.alloc (.cells (elC x).toArray 45) := ⟨_, rfl⟩
  rw [← hX]
  have hB : Below w.heap.size w X := by rw [hX]; exact HB0.out
  have hbX : X.heap[w.heap.size]? = some (.cells (elC x).toArray 45 (0, 0)) := by rw [hX]; exact blk_new w _
  have HX := Lib.hid (H.out.below hB)
  have HKX := Lib.hid (H.out.kp hB)
  clear e0 e1 e2 e3 f0 f1 f2 HB0 hX
  obtain ⟨c0, c1, c2, c3⟩ := HX.out.cells
  obtain ⟨d0, d1, d2⟩ := HX.out.gcells
  have g0 := HX.out.gice 0
  have g2 := HX.out.gice 2
  generalize w.heap.size = gb at *
  have k0 : X.cell? ⟨gb, 0, none⟩ = some (.int .i64 x.k) := (blk_cell hbX 0).trans rfl
  have k1 : X.cell? ⟨gb, 1, none⟩ = some (.string ⟨x.t.toArray⟩) := (blk_cell hbX 1).trans rfl
  have k2 : X.cell? ⟨gb, 2, none⟩ = some (.int .i64 x.a) := (blk_cell hbX 2).trans rfl
  have k3 : X.cell? ⟨gb, 3, none⟩ = some (.int .i64 x.b) := (blk_cell hbX 3).trans rfl
  have k4 : X.cell? ⟨gb, 4, none⟩ = some (.int .i64 x.lo) := (blk_cell hbX 4).trans rfl
  have k5 : X.cell? ⟨gb, 5, none⟩ = some (.int .i64 x.hi) := (blk_cell hbX 5).trans rfl
  have c0X : ∀ o, (X.alloc o).cell? ⟨gr, 0, none⟩ = some (.pointer (some ⟨gg, 0, none⟩)) := fun o => (blk_cell (blk_alloc HX.out.blk o) 0).trans rfl
  have d0X : ∀ o, (X.alloc o).cell? ⟨gg, 0, none⟩ = some (.slice A es.length c) := fun o => (blk_cell (blk_alloc HX.out.gblk o) 0).trans rfl
  clear hbX hB
  go_cut [] (fun wx => ∃ A1 cap1, Hid (RSv wx base gg gr bm l ln op (es ++ [x]) ls rs (.slice A1 (es.length + 1) cap1) vL ∧ Kp base gg bm w wx))
  case first =>
    go_region_law ((refine step_elem X.drew x HX.out _ _ (by rfl) (by rfl) (by simp [Act.eval, Act.put]) (by simp [Act.eval, Act.put]) (Below.refl X.heap.size X).drew (by rfl) ?_; intro A1 cap1 w1 HO d4 d3 d5))
    all_goals
      go_wp2_with fail
      go_meet
      case rel =>
        exact ⟨A1, cap1, Lib.hid ⟨HX.out.addE HO.out.1 HO.out.2.1 HO.out.2.2 HN.out.1, (HKX.out.trans HO.out.2.1).setCell (p := ⟨gg, 0, none⟩) (Or.inr rfl) _⟩⟩
  case rest =>
    obtain ⟨A1, cap1, HR⟩ := hcut
    clear c0 c1 c2 c3 d0 d1 d2 g0 g2 k0 k1 k2 k3 k4 k5 c0X d0X
    obtain ⟨vL0, hvL⟩ : ∃ v, v = vL := ⟨_, rfl⟩
    obtain ⟨c0, c1, c2, c3⟩ := HR.out.1.cells
    obtain ⟨d0, d1, d2⟩ := HR.out.1.gcells
    have g2 := HR.out.1.gice 2
    have c0X : ∀ o, (wc.alloc o).cell? ⟨gr, 0, none⟩ = some (.pointer (some ⟨gg, 0, none⟩)) := fun o => (blk_cell (blk_alloc HR.out.1.blk o) 0).trans rfl
    have d2X : ∀ o, (wc.alloc o).cell? ⟨gg, 2, none⟩ = some vL := fun o => (blk_cell (blk_alloc HR.out.1.gblk o) 2).trans rfl
    go_upto_region 4 with (fail)
    go_cut [] (fun wx => ∃ A2 cap2, Hid (RSv wx base gg gr bm l ln op (es ++ [x]) (ls ++ [ln]) rs (.slice A1 (es.length + 1) cap1) (.slice A2 (ls.length + 1) cap2) ∧ Kp base gg bm w wx))
    case first =>
      go_region_law ((refine step_line wc.drew ln HR.out.1 _ _ (by rfl) (by rfl) (by simp [Act.eval, Act.put]) (by simp [Act.eval, Act.put]) (Below.refl wc.heap.size wc).drew (by rfl) ?_; intro A2 cap2 w1 HO d4 d3 d5))
      all_goals
        go_wp2_with fail
        go_meet
        case rel =>
          exact ⟨A2, cap2, Lib.hid ⟨HR.out.1.addL HO.out.1 HO.out.2.1 HO.out.2.2 (by have := HN.out.2; simp; omega), (HR.out.2.trans HO.out.2.1).setCell (p := ⟨gg, 2, none⟩) (Or.inr rfl) _⟩⟩
    case rest =>
      rename_i wz
      obtain ⟨A2, cap2, HR2⟩ := hcut
      obtain ⟨e0, e1, e2, e3⟩ := HR2.out.1.cells
      obtain ⟨f0, f1, f2⟩ := HR2.out.1.gcells
      have hle := HR2.out.1.le
      have W1 : IntKind.i64.wrap ((es.length : Int) + 1 - 1) = (es.length : Int) := by
        rw [show (es.length : Int) + 1 - 1 = es.length by omega]
        exact IntWalk.i64_in _ (by simp at hle; omega)
      go_wp2_with fail
      go_ret
      have hle2 : es.length + 1 ≤ 1500 := by have := HR2.out.1.le; simpa using this
      have W2 : IntKind.i64.wrap (es.length : Int) = (es.length : Int) := IntWalk.i64_in (es.length : Int) (by omega)
      have W0 : wrap64 (es.length : Int) = (es.length : Int) := by unfold wrap64; omega
      exact ⟨congrArg (fun z => Ending.returned (Value.int .i64 z)) W0, ⟨_, _, HR2.out.1⟩, HR2.out.2⟩
end
end Go.Proofs.YtckcgiimeaklcaaDoor
