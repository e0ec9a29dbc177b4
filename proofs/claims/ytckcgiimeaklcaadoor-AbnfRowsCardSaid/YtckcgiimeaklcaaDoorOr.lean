/-
  The table's one, at one element or another: walked.
-/
import Derived.Test.YtckcgiimeaklcaaDoorOn
namespace Go.Proofs.YtckcgiimeaklcaaDoor
set_option linter.unusedVariables false
set_option linter.unusedSimpArgs false
open Go.RowKit Go.Proofs.YtckcgiimeaklcaaDoorW.PrintWords
open Ab (T El R Rs sz rootI post els root hasR szs Tb TT)
theorem cell_alloc2 {w : World} {a : Addr} {v : Value} (h : w.cell? a = some v) (o : Obj) : (w.alloc o).cell? a = some v := pw_cell_below ((Below.refl _ _).alloc (Nat.le_refl _) _) h
section
variable {w0 W W' : World} {gt gg bm : Nat} {es : List El} {rs : Rs} {A : Option Addr} {c : Nat} {vL : Value} {wd : List UInt8} {tb : Tb} {ge cap : Nat} {gs : Nat → Nat}
set_option maxRecDepth 100000 in
set_option maxHeartbeats 4000000 in
theorem one_eith (h : TbAt w0 W gt gg bm es rs A c vL wd tb ge cap gs) (hok : ∀ k i, (tb k i).Ok) (hF : Ab.Fwd wd tb) (x : El) (k i : Nat) (hx : es[k]? = some x) (hk : k < es.length) (hii : i ≤ wd.length) (hxo : x.Ok k) (hkind : x.k = 4) :
    Calls Tryd.prog 19 #[.pointer (some ⟨gt, 0, none⟩), .agg (elC x).toArray, .int .i64 i] W (OutOne W es rs wd tb k i) := by
  have hab : 0 ≤ x.a ∧ x.a < k ∧ 0 ≤ x.b ∧ x.b < k := by
    rcases hxo.2 with h | h | h | ⟨_, h⟩ | ⟨h, _⟩
    · omega
    · omega
    · omega
    · exact h
    · omega
  obtain ⟨za, hza⟩ : ∃ z, z = x.a.toNat := ⟨_, rfl⟩
  obtain ⟨zb, hzb⟩ : ∃ z, z = x.b.toNat := ⟨_, rfl⟩
  have ea : x.a = (za : Int) := by omega
  have eb : x.b = (zb : Int) := by omega
  have hal : za < es.length := by omega
  have hbl : zb < es.length := by omega
  have HO : Hid (∀ j, Ab.One es (Ab.rt rs) wd (TT tb) k i j ↔ (tb za i).has j = true ∨ (tb zb i).has j = true) := Lib.hid (fun j => by rw [Ab.one_iff hx, hkind, hza, hzb]; simp [TT])
  have HL := Lib.hid (And.intro hal hbl)
  clear hx hxo hab hza hzb
  have H := Lib.hid h
  have HOK := Lib.hid hok
  have HF := Lib.hid hF
  have HI := Lib.hid (And.intro hk hii)
  have hwl := h.wl
  have hnl := h.nl
  clear h hok hF
  go_enter Tryd.func19, Tryd.ntmps19
  go_upto_region 2 with (fail)
  obtain ⟨W1, hW1⟩ : ∃ z, z = ((W.alloc (.cells (elC x).toArray 45)).alloc (.cells #[.int .u64 0, .int .u64 0] 53)).alloc (.cells #[.int .u64 0, .int .u64 0] 53) := ⟨_, rfl⟩
  have hB1 : Below W.heap.size W W1 := by rw [hW1]; (repeat (first | exact Below.refl _ _ | assumption | refine Below.drew ?_ | refine Below.alloc ?_ (by first | exact Nat.le_refl _ | (simp; done) | (simp; omega) | omega) _ | refine Below.setCell ?_ (by first | exact Nat.le_refl _ | (simp; done) | (simp; omega) | omega) _))
  have hE : EAt W1 W.heap.size x := by rw [hW1]; exact blk_alloc (blk_alloc (blk_new W _) _) _
  have hP6 : PAt W1 (W.heap.size + 1) W2.zero := by rw [hW1]; exact blk_alloc (ab_new_at _ _ _ (by simp)) _
  have hP7 : PAt W1 (W.heap.size + 2) W2.zero := by rw [hW1]; exact ab_new_at _ _ _ (by simp)
  rw [← hW1]
  have HT := Lib.hid (H.out.below hB1)
  have HR : Hid (EAt W1 W.heap.size x ∧ PAt W1 (W.heap.size + 1) W2.zero ∧ PAt W1 (W.heap.size + 2) W2.zero ∧ Below W.heap.size W W1) := Lib.hid ⟨hE, hP6, hP7, hB1⟩
  obtain ⟨q, hq⟩ : ∃ q, W.heap.size = q := ⟨_, rfl⟩
  have HQ := Lib.hid hq
  rw [hq] at HR ⊢
  clear hW1 hB1 hE hP6 hP7 hq
  obtain ⟨e0, e1, e2, e3, e4, e5⟩ := HR.out.1.cells
  have tk0 : (x.k == 0) = ((4 : Int) == 0) := by rw [hkind]
  have tk1 : (x.k == 1) = ((4 : Int) == 1) := by rw [hkind]
  have tk2 : (x.k == 2) = ((4 : Int) == 2) := by rw [hkind]
  have tk3 : (x.k == 3) = ((4 : Int) == 3) := by rw [hkind]
  have tk4 : (x.k == 4) = ((4 : Int) == 4) := by rw [hkind]
  have tk5 : (x.k == 5) = ((4 : Int) == 5) := by rw [hkind]
  simp only [Int.reduceBEq] at tk0 tk1 tk2 tk3 tk4 tk5
  clear hkind
  rw [ea] at e2
  rw [eb] at e3
  obtain ⟨t0, t1, t2⟩ := HT.out.cells
  have te := HT.out.ecell za hal
  obtain ⟨r0, r1⟩ := HT.out.rcell za hal i HI.out.2
  have k2 : (za : Int) < es.length := by omega
  have k3 : (0 : Int) ≤ (za : Int) := by omega
  have k4 : (i : Int) < (wd.length : Int) + 1 := by have := HI.out.2; omega
  have k5 : (0 : Int) ≤ (i : Int) := by omega
  have k6 : (zb : Int) < es.length := by omega
  have k7 : (0 : Int) ≤ (zb : Int) := by omega
  have HTO := Lib.hid (And.intro (HOK.out za i) (HOK.out zb i))
  obtain ⟨b0, b1⟩ := HR.out.2.2.1.cells
  have fb0 := blk_frozen HR.out.2.2.1 0
  have fb1 := blk_frozen HR.out.2.2.1 1
  generalize tb za i = p at *
  have HY : Hid (EAt (((W1.setCell ⟨q + 2, 0, none⟩ (.int .u64 p.a)).setCell ⟨q + 2, 1, none⟩ (.int .u64 p.b)).drew) q x ∧ PAt (((W1.setCell ⟨q + 2, 0, none⟩ (.int .u64 p.a)).setCell ⟨q + 2, 1, none⟩ (.int .u64 p.b)).drew) (q + 1) W2.zero ∧ PAt (((W1.setCell ⟨q + 2, 0, none⟩ (.int .u64 p.a)).setCell ⟨q + 2, 1, none⟩ (.int .u64 p.b)).drew) (q + 2) p ∧ Below q W (((W1.setCell ⟨q + 2, 0, none⟩ (.int .u64 p.a)).setCell ⟨q + 2, 1, none⟩ (.int .u64 p.b)).drew)) := by
    refine Lib.hid ⟨(HR.out.1.set (p := ⟨q + 2, 0, none⟩) (show q ≠ q + 2 by omega) _).set (p := ⟨q + 2, 1, none⟩) (show q ≠ q + 2 by omega) _, (HR.out.2.1.set (p := ⟨q + 2, 0, none⟩) (show q + 1 ≠ q + 2 by omega) _).set (p := ⟨q + 2, 1, none⟩) (show q + 1 ≠ q + 2 by omega) _, HR.out.2.2.1.put, ((HR.out.2.2.2.setCell (p := ⟨q + 2, 0, none⟩) (show q ≤ q + 2 by omega) _).setCell (p := ⟨q + 2, 1, none⟩) (show q ≤ q + 2 by omega) _).drew⟩
  have HTY : Hid (TbAt w0 (((W1.setCell ⟨q + 2, 0, none⟩ (.int .u64 p.a)).setCell ⟨q + 2, 1, none⟩ (.int .u64 p.b)).drew) gt gg bm es rs A c vL wd tb ge cap gs) := Lib.hid (H.out.below (by rw [HQ.out]; exact HY.out.2.2.2))
  go_upto_region 15 with (fail)
  go_region
  all_goals
    generalize ((W1.setCell ⟨q + 2, 0, none⟩ (.int .u64 p.a)).setCell ⟨q + 2, 1, none⟩ (.int .u64 p.b)).drew = Y at HY HTY ⊢
    clear t0 t1 t2 te r0 r1 b0 b1 fb0 fb1 e0 e1 e2 e3 e4 e5 HR HT
    obtain ⟨e0, e1, e2, e3, e4, e5⟩ := HY.out.1.cells
    rw [eb] at e3
    obtain ⟨t0, t1, t2⟩ := HTY.out.cells
    have te := HTY.out.ecell zb HL.out.2
    obtain ⟨r0, r1⟩ := HTY.out.rcell zb HL.out.2 i HI.out.2
    have hne : q + 2 ≠ gs zb := by have := H.out.rblk zb HL.out.2; have := HQ.out; omega
    have HTB := Lib.hid (show (tb zb i).Ok from HTO.out.2)
    generalize tb zb i = t at *
    have HOR : Hid (Calls Tryd.prog 31 #[.pointer (some ⟨q + 1 + 1, 0, none⟩), .pointer (some ⟨gs zb, i * 2, none⟩)] Y.drew fun e w' => e = .returned (.tuple #[]) ∧ PAt w' (q + 2) (p.or t) ∧ Y.drew.grownBy w' (some (q + 2))) :=
      Lib.hid (por_any p t HTO.out.1 HTB.out (q + 2) (gs zb) (i * 2) hne Y.drew (show PAt Y (q + 2) p from HY.out.2.2.1) r0 r1)
    go_upto_region 16 with (fail)
    have HPO := Lib.hid (W2.ok_or HTO.out.1 HTB.out)
    have HPH : Hid (∀ j, (p.or t).has j = true ↔ Ab.One es (Ab.rt rs) wd (TT tb) k i j) := Lib.hid (fun j => by rw [HO.out j, W2.has_or, Bool.or_eq_true])
    go_region_with ((go_at_call 31; refine HOR.out.mono ?_; rintro e w3 ⟨rfl, hP3, hG3⟩))
    all_goals
      have HZ : Hid (PAt w3 (q + 2) (p.or t) ∧ PAt w3 (q + 1) W2.zero ∧ Below q W w3) := Lib.hid ⟨hP3, PAt.grown (W := Y.drew) HY.out.2.1 hG3 (by omega), below_grown (HY.out.2.2.2.drew) hG3 (by have := HY.out.2.2.1.lt; exact Nat.le_of_lt (Nat.lt_of_le_of_lt (by omega) this)) (by omega)⟩
      clear hP3 hG3 t0 t1 t2 te r0 r1 e0 e1 e2 e3 e4 e5 HY HTY
      generalize p.or t = s at HZ HPO HPH
      obtain ⟨b0, b1⟩ := (HZ.out.2.1 : PAt w3 (q + 1) W2.zero).cells
      have fb0 := blk_frozen (HZ.out.2.1 : PAt w3 (q + 1) W2.zero) 0
      have fb1 := blk_frozen (HZ.out.2.1 : PAt w3 (q + 1) W2.zero) 1
      obtain ⟨o0, o1⟩ := (HZ.out.1 : PAt w3 (q + 2) s).cells
      go_wp2_with fail
      clear b0 b1 fb0 fb1 o0 o1
      have hz : PAt ((w3.setCell ⟨q + 1, 0, none⟩ (.int .u64 s.a)).setCell ⟨q + 1, 1, none⟩ (.int .u64 s.b)) (q + 1) s := blk_put (blk_put HZ.out.2.1 0 (.int .u64 s.a) rfl) 1 (.int .u64 s.b) rfl
      have hzb := Lib.hid (((HZ.out.2.2 : Below q W w3).setCell (p := ⟨q + 1, 0, none⟩) (show q ≤ q + 1 by omega) (.int .u64 s.a)).setCell (p := ⟨q + 1, 1, none⟩) (show q ≤ q + 1 by omega) (.int .u64 s.b))
      generalize ((w3.setCell ⟨q + 1, 0, none⟩ (.int .u64 s.a)).setCell ⟨q + 1, 1, none⟩ (.int .u64 s.b)) = Z at hz hzb ⊢
      obtain ⟨z0, z1⟩ := hz.cells
      clear hz
      refine bodyPost_ret (v := .agg #[.int .u64 s.a, .int .u64 s.b]) (by simp [results, Tryd.results19, go_sem, z0, z1]) rfl ?_
      exact ⟨s, rfl, HPO.out, HPH.out, by rw [HQ.out]; exact hzb.out⟩
end
end Go.Proofs.YtckcgiimeaklcaaDoor
