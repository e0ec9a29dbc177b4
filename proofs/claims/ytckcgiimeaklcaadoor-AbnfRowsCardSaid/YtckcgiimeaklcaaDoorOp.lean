/-
  The table's one, at names: walked.
-/
import Derived.Test.YtckcgiimeaklcaaDoorOn
namespace Go.Proofs.YtckcgiimeaklcaaDoor
set_option linter.unusedVariables false
set_option linter.unusedSimpArgs false
open Go.RowKit Go.Proofs.YtckcgiimeaklcaaDoorW.PrintWords
open Ab (T El R Rs sz rootI post els root hasR szs Tb TT)
section
variable {w0 W W' : World} {gt gg bm : Nat} {es : List El} {rs : Rs} {A : Option Addr} {c : Nat} {vL : Value} {wd : List UInt8} {tb : Tb} {ge cap : Nat} {gs : Nat → Nat}
set_option maxRecDepth 100000 in
set_option maxHeartbeats 4000000 in
theorem one_nam (h : TbAt w0 W gt gg bm es rs A c vL wd tb ge cap gs) (hok : ∀ k i, (tb k i).Ok) (hF : Ab.Fwd wd tb) (x : El) (k i : Nat) (hx : es[k]? = some x) (hk : k < es.length) (hii : i ≤ wd.length) (hxo : x.Ok k) (hkind : x.k = 2) (z : Nat) (hz : root 0 rs x.t = some (z : Int)) (hzl : z < es.length) :
    Calls Tryd.prog 19 #[.pointer (some ⟨gt, 0, none⟩), .agg (elC x).toArray, .int .i64 i] W (OutOne W es rs wd tb k i) := by
  have HO : Hid (∀ j, (tb z i).has j = true ↔ Ab.One es (Ab.rt rs) wd (TT tb) k i j) := Lib.hid (fun j => by
    rw [Ab.one_iff hx, hkind]
    unfold Ab.rt
    rw [hz]
    simp [TT])
  have HXT := Lib.hid hxo.1
  have HZ := Lib.hid (And.intro hz hzl)
  clear hx hxo hz hzl
  have H := Lib.hid h
  have HOK := Lib.hid hok
  have HF := Lib.hid hF
  have HI := Lib.hid (And.intro hk hii)
  have hwl := h.wl
  have hnl := h.nl
  clear h hok hF
  go_enter Tryd.func19, Tryd.ntmps19
  go_upto_region 2 with (fail)
  obtain ⟨W1, hW1⟩ : ∃ z, z = ((W.alloc (.cells (elC x).toArray 45)).alloc (.cells #[.int .u64 0, .int .u64 0] 53)).alloc (.cells #[.int .u64 0, .int .u64 0] 53) := ⟨_, rfl⟩
  have hB1 : Below W.heap.size W W1 := by rw [hW1]; (repeat (first | exact Below.refl _ _ | assumption | refine Below.drew ?_ | refine Below.alloc ?_ (by first | exact Nat.le_refl _ | (simp; done) | (simp; omega) | omega) _ | refine Below.setCell ?_ (by first | exact Nat.le_refl _ | (simp; done) | (simp; omega) | omega) _))
  have hE : EAt W1 W.heap.size x := by rw [hW1]; exact blk_alloc (blk_alloc (blk_new W _) _) _
  have hP6 : PAt W1 (W.heap.size + 1) W2.zero := by rw [hW1]; exact blk_alloc (ab_new_at _ _ _ (by simp)) _
  have hP7 : PAt W1 (W.heap.size + 2) W2.zero := by rw [hW1]; exact ab_new_at _ _ _ (by simp)
  rw [← hW1]
  have HT := Lib.hid (H.out.below hB1)
  have HR : Hid (EAt W1 W.heap.size x ∧ PAt W1 (W.heap.size + 1) W2.zero ∧ PAt W1 (W.heap.size + 2) W2.zero ∧ Below W.heap.size W W1) := Lib.hid ⟨hE, hP6, hP7, hB1⟩
  obtain ⟨q, hq⟩ : ∃ q, W.heap.size = q := ⟨_, rfl⟩
  have HQ := Lib.hid hq
  rw [hq] at HR ⊢
  clear hW1 hB1 hE hP6 hP7 hq
  obtain ⟨e0, e1, e2, e3, e4, e5⟩ := HR.out.1.cells
  have tk0 : (x.k == 0) = ((2 : Int) == 0) := by rw [hkind]
  have tk1 : (x.k == 1) = ((2 : Int) == 1) := by rw [hkind]
  have tk2 : (x.k == 2) = ((2 : Int) == 2) := by rw [hkind]
  have tk3 : (x.k == 3) = ((2 : Int) == 3) := by rw [hkind]
  have tk4 : (x.k == 4) = ((2 : Int) == 4) := by rw [hkind]
  have tk5 : (x.k == 5) = ((2 : Int) == 5) := by rw [hkind]
  simp only [Int.reduceBEq] at tk0 tk1 tk2 tk3 tk4 tk5
  clear hkind
  have hzl := HZ.out.2
  obtain ⟨t0, t1, t2⟩ := HT.out.cells
  obtain ⟨g0, g1, g2⟩ := (HT.out.gram.below HT.out.bel).cells
  obtain ⟨cc, hlook, hcc⟩ := (HT.out.gram.below HT.out.bel.drew).map.look1 x.t (by have := HXT.out; unfold maxLen; omega)
  rw [hcc _ HZ.out.1] at hlook
  have te := HT.out.ecell z hzl
  obtain ⟨r0, r1⟩ := HT.out.rcell z hzl i HI.out.2
  have k2 : (z : Int) < es.length := by omega
  have k3 : (0 : Int) ≤ (z : Int) := by omega
  have k4 : (i : Int) < (wd.length : Int) + 1 := by have := HI.out.2; omega
  have k5 : (0 : Int) ≤ (i : Int) := by omega
  have wi0 : IntKind.i64.wrap (i : Int) = (i : Int) := IntWalk.i64_in _ (by omega)
  have wz0 : IntKind.i64.wrap (z : Int) = (z : Int) := IntWalk.i64_in _ (by omega)
  obtain ⟨b0, b1⟩ := HR.out.2.1.cells
  have fb0 := blk_frozen HR.out.2.1 0
  have fb1 := blk_frozen HR.out.2.1 1
  have HTO := Lib.hid (HOK.out z i)
  generalize tb z i = p at *
  go_upto_region 10 with (fail)
  go_region
  all_goals
    go_wp2_with fail
    clear e0 e1 e2 e3 e4 e5 t0 t1 t2 g0 g1 g2 hlook te r0 r1 b0 b1 fb0 fb1
    have hz : PAt (((W1.setCell ⟨q + 1, 0, none⟩ (.int .u64 p.a)).setCell ⟨q + 1, 1, none⟩ (.int .u64 p.b)).drew) (q + 1) p := blk_put (blk_put HR.out.2.1 0 (.int .u64 p.a) rfl) 1 (.int .u64 p.b) rfl
    have hzb := Lib.hid ((((HR.out.2.2.2 : Below q W W1).setCell (p := ⟨q + 1, 0, none⟩) (show q ≤ q + 1 by omega) (.int .u64 p.a)).setCell (p := ⟨q + 1, 1, none⟩) (show q ≤ q + 1 by omega) (.int .u64 p.b)).drew)
    generalize (((W1.setCell ⟨q + 1, 0, none⟩ (.int .u64 p.a)).setCell ⟨q + 1, 1, none⟩ (.int .u64 p.b)).drew) = Z at hz hzb ⊢
    obtain ⟨z0, z1⟩ := hz.cells
    clear hz
    refine bodyPost_ret (v := .agg #[.int .u64 p.a, .int .u64 p.b]) (by simp [results, Tryd.results19, go_sem, z0, z1]) rfl ?_
    exact ⟨p, rfl, HTO.out, HO.out, by rw [HQ.out]; exact hzb.out⟩
end
end Go.Proofs.YtckcgiimeaklcaaDoor
