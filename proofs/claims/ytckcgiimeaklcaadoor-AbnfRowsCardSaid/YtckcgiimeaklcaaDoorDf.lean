/-
  Derives: walked.
-/
import Derived.Test.YtckcgiimeaklcaaDoorDe
namespace Go.Proofs.YtckcgiimeaklcaaDoor
set_option linter.unusedVariables false
set_option linter.unusedSimpArgs false
open Go.RowKit Go.Proofs.YtckcgiimeaklcaaDoorW.PrintWords
open Ab (T El R Rs sz rootI post els root hasR szs Tb TT)
/-- The table that is built. -/
theorem Bld.tab {w0 W : World} {gt gg bm : Nat} {wd : List UInt8} {gsL : List Nat} {vA : Value} {es : List El} {rs : Rs} {A : Option Addr} {c : Nat} {vL : Value} (h : Bld w0 W gt gg wd gsL vA) (hg : GramAt w0 gg bm es rs A c vL) (hn : gsL.length = es.length) (h0 : 0 < es.length) (hw : wd.length ≤ 120) :
    ∃ ge cap, vA = .slice (some ⟨ge, 0, none⟩) es.length cap ∧ TbAt w0 W gt gg bm es rs A c vL wd (fun _ _ => W2.zero) ge cap (fun k => gsL.getD k 0) := by
  rcases h.own.2 with ⟨e, h1⟩ | ⟨ge, cap, cur, e, hb, hge, h1, h2, h3, h4⟩
  · omega
  · refine ⟨ge, cap, by rw [e, hn], hg, h.bel, h.lt, ?_, ⟨cur, hge, ?_⟩, ?_, ?_, ?_, hw, by have := h.nl; omega⟩
    · have := h.tblk
      rw [e, hn] at this
      exact this
    · intro k hk
      have h5 : (gsL.map (rowV (wd.length + 1)))[k]? = some (rowV (wd.length + 1) (gsL.getD k 0)) := by
        rw [List.getElem?_map, List.getElem?_eq_getElem (by omega), List.getD_eq_getElem?_getD, List.getElem?_eq_getElem (by omega)]
        rfl
      rw [← h4, List.getElem?_take_of_lt (by omega)] at h5
      simpa [rowV] using h5
    · intro k hk
      have hm : gsL.getD k 0 ∈ gsL := by rw [List.getD_eq_getElem?_getD, List.getElem?_eq_getElem (by omega)]; exact List.getElem_mem _
      exact ⟨_, (h.row _ hm).1, fun i hi => rowZ_at _ i (by omega)⟩
    · intro k hk
      have hm : gsL.getD k 0 ∈ gsL := by rw [List.getD_eq_getElem?_getD, List.getElem?_eq_getElem (by omega)]; exact List.getElem_mem _
      exact (h.row _ hm).2
    · intro k k' hk hk' e
      rw [List.getD_eq_getElem?_getD, List.getD_eq_getElem?_getD, List.getElem?_eq_getElem (by omega), List.getElem?_eq_getElem (by omega)] at e
      have e2 : gsL[k] = gsL[k'] := e
      have hp := List.pairwise_iff_getElem.1 h.nod
      refine Classical.byContradiction fun hne => ?_
      rcases Nat.lt_or_gt_of_ne hne with hlt | hlt
      · exact hp k k' (by omega) (by omega) hlt e2
      · exact hp k' k (by omega) (by omega) hlt e2.symm
theorem derives_nil (r d : ByteArray) (w : World) : Calls Tryd.prog 6 #[.pointer none, .string r, .string d] w fun e w' => e = .returned (.tuple #[.bool false, .int .i64 4]) ∧ w' = w := by
  go_enter Tryd.func6, Tryd.ntmps6
  go_wp2_with fail
  refine (has_nil r).mono ?_
  rintro e w1 ⟨rfl, rfl⟩
  go_wp2_with fail
  refine bodyPost_ret (v := .tuple #[.bool false, .int .i64 4]) (by simp [results, Tryd.results6]) rfl ⟨rfl, rfl⟩
section
variable {w : World} {gg bm : Nat} {es : List El} {rs : Rs} {A : Option Addr} {c : Nat} {vL : Value}
theorem derives_none (h : GramAt w gg bm es rs A c vL) (r : List UInt8) (hr : r.length ≤ maxLen) (d : ByteArray) (hh : hasR rs r = false) : Calls Tryd.prog 6 #[.pointer (some ⟨gg, 0, none⟩), .string ⟨r.toArray⟩, .string d] w fun e w' => e = .returned (.tuple #[.bool false, .int .i64 4]) ∧ w' = w := by
  have H := Lib.hid h
  have HR := Lib.hid hr
  have HH := Lib.hid hh
  clear h hr hh
  go_enter Tryd.func6, Tryd.ntmps6
  go_wp2_with fail
  refine (has_any r HR.out H.out.cells.2.1 H.out.map).mono ?_
  rintro e w1 ⟨rfl, rfl⟩
  rw [HH.out]
  go_wp2_with fail
  refine bodyPost_ret (v := .tuple #[.bool false, .int .i64 4]) (by simp [results, Tryd.results6]) rfl ⟨rfl, rfl⟩
theorem derives_long (h : GramAt w gg bm es rs A c vL) (r : List UInt8) (hr : r.length ≤ maxLen) (d : List UInt8) (hd : 120 < d.length) (hh : hasR rs r = true) : Calls Tryd.prog 6 #[.pointer (some ⟨gg, 0, none⟩), .string ⟨r.toArray⟩, .string ⟨d.toArray⟩] w fun e w' => e = .returned (.tuple #[.bool false, .int .i64 3]) ∧ w' = w := by
  have H := Lib.hid h
  have HR := Lib.hid hr
  have HH := Lib.hid hh
  have t1 : decide ((120 : Int) < (d.length : Int)) = true := decide_eq_true (by omega)
  clear h hr hh
  go_enter Tryd.func6, Tryd.ntmps6
  go_wp2_with fail
  refine (has_any r HR.out H.out.cells.2.1 H.out.map).mono ?_
  rintro e w1 ⟨rfl, rfl⟩
  rw [HH.out]
  go_wp2_with fail
  refine bodyPost_ret (v := .tuple #[.bool false, .int .i64 3]) (by simp [results, Tryd.results6]) rfl ⟨rfl, rfl⟩
set_option maxRecDepth 100000 in
set_option maxHeartbeats 6400000 in
theorem derives_any (h : GramAt w gg bm es rs A c vL) (hS : Ab.Sound rs) (hes : es = els 0 rs) (r : List UInt8) (hr : r.length ≤ maxLen) (d : List UInt8) (hd : d.length ≤ 120) (z : Nat) (hz : root 0 rs r = some (z : Int)) :
    Calls Tryd.prog 6 #[.pointer (some ⟨gg, 0, none⟩), .string ⟨r.toArray⟩, .string ⟨d.toArray⟩] w fun e w' => ∃ b : Bool, e = .returned (.tuple #[.bool b, .int .i64 0]) ∧ (b = true ↔ Ab.E es (Ab.rt rs) d z 0 d.length) ∧ Below w.heap.size w w' := by
  have H := Lib.hid h
  have HR := Lib.hid hr
  have hh : hasR rs r = true := by rw [← Ab.root_has r 0 rs, hz]; rfl
  have hzl : z < es.length := by have := Ab.root_lt r 0 rs _ hz; rw [hes, Ab.els_len]; omega
  have HH := Lib.hid hh
  have HZ := Lib.hid (And.intro hz hzl)
  have HSD := Lib.hid (And.intro hS hes)
  have hle : es.length ≤ 1500 := by rw [hes, Ab.els_len]; exact hS.le
  have t1 : decide ((120 : Int) < (d.length : Int)) = false := decide_eq_false (by omega)
  have wd1 : IntKind.i64.wrap ((d.length : Int) + 1) = (d.length : Int) + 1 := IntWalk.i64_in _ (by omega)
  have HMK : ∀ W : World, (Instr.makeSlice 50 (.int .i64 ((d.length : Int) + 1)) (.int .i64 ((d.length : Int) + 1))).run Tryd.prog W = .ok (.slice (some ⟨W.heap.size, 0, none⟩) (d.length + 1) (d.length + 1)) (W.alloc (.cells (rowZ (d.length + 1)) 53)) := make_row (d.length + 1) (by omega)
  obtain ⟨g0, g1, g2⟩ := h.cells
  clear h hr hh hS hes hz hzl
  go_enter Tryd.func6, Tryd.ntmps6
  go_wp2_with fail
  refine (has_any r HR.out H.out.cells.2.1 H.out.map).mono ?_
  rintro e w1 ⟨rfl, rfl⟩
  rw [HH.out]
  go_upto_region 6 with (fail)
  obtain ⟨W0, hW0⟩ : ∃ z, z = w1.alloc (.cells #[.pointer (some ⟨gg, 0, none⟩), .string ⟨d.toArray⟩, .slice none 0 0] 49) := ⟨_, rfl⟩
  rw [← hW0]
  have HB0 : Hid (Bld w1 W0 w1.heap.size gg d [] (.slice none 0 0)) := Lib.hid (by
    rw [hW0]
    exact ⟨(Below.refl _ _).alloc (Nat.le_refl _) _, Nat.le_refl _, blk_new w1 _, ab_own_nil _ _ _ _, by simp, by simp, by simp⟩)
  clear hW0
  obtain ⟨gt, hgt⟩ : ∃ gt, w1.heap.size = gt := ⟨_, rfl⟩
  have HGT := Lib.hid hgt
  rw [hgt] at HB0 ⊢
  clear hgt g0 g1 g2
  obtain ⟨g0, g1, g2⟩ := (H.out.below HB0.out.bel).cells
  have e0 : Hid (gt = w1.heap.size) := Lib.hid HGT.out.symm
  go_wp2_with fail
  go_loopw [27] (fun v wr => ∃ (gsL : List Nat) (vA : Value), v = .int .i64 (gsL.length : Int) ∧ gsL.length ≤ es.length ∧ Hid (Bld w1 wr gt gg d gsL vA)) (fun v _ => es.length - (RowKit.intOf v).toNat)
  case atStart => exact ⟨[], _, rfl, by simp, HB0⟩
  case round =>
    clear HB0 g0 g1 g2
    obtain ⟨gsL, vA, rfl, hk, HB⟩ := hrel
    by_cases hlt : gsL.length < es.length
    · have t2 : decide ((gsL.length : Int) < (es.length : Int)) = true := decide_eq_true (by omega)
      have wk1 : IntKind.i64.wrap ((gsL.length : Int) + 1) = (gsL.length : Int) + 1 := IntWalk.i64_in _ (by omega)
      obtain ⟨b0, b1, b2⟩ := HB.out.cells
      obtain ⟨M, hM⟩ : ∃ M, M = wr.alloc (.cells (rowZ (d.length + 1)) 53) := ⟨_, rfl⟩
      have HM := Lib.hid hM
      have b2X := cell_alloc b2
      have b2XX : ∀ o o', ((wr.alloc o).alloc o').cell? ⟨gt, 2, none⟩ = some vA := fun o o' => cell_alloc (cell_alloc b2 o) o'
      go_upto_region 8 with (fail)
      go_region_law ((refine step_row M HB.out HM _ _ (by rfl) (by rfl) (by simp [Act.eval, Act.put]) (by rw [HM.out]; simp [Act.eval, Act.put]) (by rw [HM.out]; rfl) ?_; intro A1 cap1 w5 HO d4 d3))
      all_goals
        have HB2 := Lib.hid (HB.out.add HM.out HO.out.1 HO.out.2 (by omega))
        go_wp2_with fail
        go_roundw
        case rel => exact ⟨gsL ++ [wr.heap.size], _, by simp, by simp; omega, HB2⟩
        case measure => simp [RowKit.intOf] <;> omega
    · have hn : gsL.length = es.length := by omega
      have t2 : decide ((gsL.length : Int) < (es.length : Int)) = false := decide_eq_false (by omega)
      obtain ⟨ge, cap, rfl, hT⟩ := HB.out.tab H.out hn (by have := HZ.out.2; omega) hd
      have HT := Lib.hid hT
      generalize (fun k => gsL.getD k 0) = gs at HT
      clear hT HB
      go_wp2_with fail
      refine (fills_any HT.out HSD.out.1 HSD.out.2).mono ?_
      rintro e w5 ⟨rfl, tb, hT5, hF5⟩
      have HT5 := Lib.hid hT5
      have HF5 := Lib.hid hF5
      have hzl := HZ.out.2
      obtain ⟨b0, b1, b2⟩ := hT5.cells
      obtain ⟨g0, g1, g2⟩ := (hT5.gram.below hT5.bel).cells
      have te := hT5.ecell z hzl
      have hrc := hT5.rcell z hzl 0 (by omega)
      rw [Nat.zero_mul] at hrc
      have hlook : ∀ n, (Instr.lookup 33 (.map (some bm)) (.string ⟨r.toArray⟩) false).run Tryd.prog (w5.drewN n) = .ok (.int .i64 (z : Int)) (w5.drewN n) := fun n => by
        obtain ⟨cc, h1, h2⟩ := (HT5.out.gram.below (pw_below_drewN HT5.out.bel n)).map.look1 r HR.out
        rw [h2 _ HZ.out.1] at h1
        exact h1
      have HPH := Lib.hid (fun n => phas_any (tb z 0) (HF5.out.1 z 0) (gs z) 0 d.length (by omega) (w5.drewN n) hrc.1 hrc.2)
      have k2 : (z : Int) < es.length := by omega
      have k3 : (0 : Int) ≤ (z : Int) := by omega
      have wz0 : IntKind.i64.wrap (z : Int) = (z : Int) := IntWalk.i64_in _ (by omega)
      have HBB : Hid ((tb z 0).has d.length = true ↔ Ab.E es (Ab.rt rs) d z 0 d.length) := Lib.hid (HF5.out.2 z 0 d.length (by omega))
      have k4 : (0 : Int) < (d.length : Int) + 1 := by omega
      generalize (tb z 0).has d.length = bb at HPH HBB
      clear hT5 hF5 hrc
      go_upto_region 11 with (fail)
      go_quiet ((go_at_call 14; exact Calls.quiet_of_same (HPH.out _)))
      go_wp2_with fail
      exact bodyPost_ret (v := .tuple #[.bool bb, .int .i64 0]) (by simp [results, Tryd.results6]) rfl ⟨bb, rfl, HBB.out, pw_below_drewN HT5.out.bel nq⟩
end
end Go.Proofs.YtckcgiimeaklcaaDoor
