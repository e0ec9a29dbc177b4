/-
  The table's one, at two elements side by side: walked.
-/
import Derived.Test.YtckcgiimeaklcaaDoorOn
namespace Go.Proofs.YtckcgiimeaklcaaDoor
set_option linter.unusedVariables false
set_option linter.unusedSimpArgs false
open Go.RowKit Go.Proofs.YtckcgiimeaklcaaDoorW.PrintWords
open Ab (T El R Rs sz rootI post els root hasR szs Tb TT)
theorem cell_alloc {w : World} {a : Addr} {v : Value} (h : w.cell? a = some v) (o : Obj) : (w.alloc o).cell? a = some v := pw_cell_below ((Below.refl _ _).alloc (Nat.le_refl _) _) h
section
variable {w0 W W' : World} {gt gg bm : Nat} {es : List El} {rs : Rs} {A : Option Addr} {c : Nat} {vL : Value} {wd : List UInt8} {tb : Tb} {ge cap : Nat} {gs : Nat → Nat}
set_option maxRecDepth 100000 in
set_option maxHeartbeats 4000000 in
theorem one_both (h : TbAt w0 W gt gg bm es rs A c vL wd tb ge cap gs) (hok : ∀ k i, (tb k i).Ok) (hF : Ab.Fwd wd tb) (x : El) (k i : Nat) (hx : es[k]? = some x) (hk : k < es.length) (hii : i ≤ wd.length) (hxo : x.Ok k) (hkind : x.k = 3) :
    Calls Tryd.prog 19 #[.pointer (some ⟨gt, 0, none⟩), .agg (elC x).toArray, .int .i64 i] W (OutOne W es rs wd tb k i) := by
  have hab : 0 ≤ x.a ∧ x.a < k ∧ 0 ≤ x.b ∧ x.b < k := by
    rcases hxo.2 with h | h | h | ⟨_, h⟩ | ⟨h, _⟩
    · omega
    · omega
    · omega
    · exact h
    · omega
  obtain ⟨za, hza⟩ : ∃ z, z = x.a.toNat := ⟨_, rfl⟩
  obtain ⟨zb, hzb⟩ : ∃ z, z = x.b.toNat := ⟨_, rfl⟩
  have ea : x.a = (za : Int) := by omega
  have eb : x.b = (zb : Int) := by omega
  have hal : za < es.length := by omega
  have hbl : zb < es.length := by omega
  have HO : Hid (∀ j, Ab.One es (Ab.rt rs) wd (TT tb) k i j ↔ ∃ m, TT tb za i m ∧ TT tb zb m j) := Lib.hid (fun j => by rw [Ab.one_iff hx, hkind, hza, hzb]; simp)
  have HL := Lib.hid (And.intro hal hbl)
  clear hx hxo hab hza hzb
  have H := Lib.hid h
  have HOK := Lib.hid hok
  have HF := Lib.hid hF
  have HI := Lib.hid (And.intro hk hii)
  have hwl := h.wl
  have hnl := h.nl
  clear h hok hF
  go_enter Tryd.func19, Tryd.ntmps19
  go_upto_region 2 with (fail)
  obtain ⟨W1, hW1⟩ : ∃ z, z = ((W.alloc (.cells (elC x).toArray 45)).alloc (.cells #[.int .u64 0, .int .u64 0] 53)).alloc (.cells #[.int .u64 0, .int .u64 0] 53) := ⟨_, rfl⟩
  have hB1 : Below W.heap.size W W1 := by rw [hW1]; (repeat (first | exact Below.refl _ _ | assumption | refine Below.drew ?_ | refine Below.alloc ?_ (by first | exact Nat.le_refl _ | (simp; done) | (simp; omega) | omega) _ | refine Below.setCell ?_ (by first | exact Nat.le_refl _ | (simp; done) | (simp; omega) | omega) _))
  have hE : EAt W1 W.heap.size x := by rw [hW1]; exact blk_alloc (blk_alloc (blk_new W _) _) _
  have hP6 : PAt W1 (W.heap.size + 1) W2.zero := by rw [hW1]; exact blk_alloc (ab_new_at _ _ _ (by simp)) _
  have hP7 : PAt W1 (W.heap.size + 2) W2.zero := by rw [hW1]; exact ab_new_at _ _ _ (by simp)
  rw [← hW1]
  have HT := Lib.hid (H.out.below hB1)
  have HR : Hid (EAt W1 W.heap.size x ∧ PAt W1 (W.heap.size + 1) W2.zero ∧ PAt W1 (W.heap.size + 2) W2.zero ∧ Below W.heap.size W W1) := Lib.hid ⟨hE, hP6, hP7, hB1⟩
  obtain ⟨q, hq⟩ : ∃ q, W.heap.size = q := ⟨_, rfl⟩
  have HQ := Lib.hid hq
  rw [hq] at HR ⊢
  clear hW1 hB1 hE hP6 hP7 hq
  obtain ⟨e0, e1, e2, e3, e4, e5⟩ := HR.out.1.cells
  have tk0 : (x.k == 0) = ((3 : Int) == 0) := by rw [hkind]
  have tk1 : (x.k == 1) = ((3 : Int) == 1) := by rw [hkind]
  have tk2 : (x.k == 2) = ((3 : Int) == 2) := by rw [hkind]
  have tk3 : (x.k == 3) = ((3 : Int) == 3) := by rw [hkind]
  have tk4 : (x.k == 4) = ((3 : Int) == 4) := by rw [hkind]
  have tk5 : (x.k == 5) = ((3 : Int) == 5) := by rw [hkind]
  simp only [Int.reduceBEq] at tk0 tk1 tk2 tk3 tk4 tk5
  clear hkind
  rw [ea] at e2
  rw [eb] at e3
  obtain ⟨t0, t1, t2⟩ := HT.out.cells
  have te := HT.out.ecell za hal
  obtain ⟨r0, r1⟩ := HT.out.rcell za hal i HI.out.2
  have k2 : (za : Int) < es.length := by omega
  have k3 : (0 : Int) ≤ (za : Int) := by omega
  have k4 : (i : Int) < (wd.length : Int) + 1 := by have := HI.out.2; omega
  have k5 : (0 : Int) ≤ (i : Int) := by omega
  have HTO := Lib.hid (HOK.out za i)
  have HFA : Hid (∀ m, (tb za i).has m = true ↔ TT tb za i m) := Lib.hid (fun m => Iff.rfl)
  have HFW : Hid (∀ m, (tb za i).has m = true → i ≤ m ∧ m ≤ wd.length) := Lib.hid (fun m h => HF.out za i m h)
  generalize tb za i = p at r0 r1 HTO HFA HFW
  have t2X := cell_alloc t2
  have teX := cell_alloc te
  have r0X := cell_alloc r0
  have r1X := cell_alloc r1
  have e2X := cell_alloc e2
  have HW1 : Hid (q + 2 < W1.heap.size) := Lib.hid HR.out.2.2.1.lt
  have HBY : Hid (Below W1.heap.size W1 ((W1.alloc (.cells #[.int .u64 p.a, .int .u64 p.b] 53)).drew)) := Lib.hid (((Below.refl _ _).alloc (Nat.le_refl _) _).drew)
  have HYP : Hid (PAt ((W1.alloc (.cells #[.int .u64 p.a, .int .u64 p.b] 53)).drew) W1.heap.size p) := Lib.hid (blk_new W1 (.cells #[.int .u64 p.a, .int .u64 p.b] 53))
  go_upto_region 12 with (fail)
  go_region
  all_goals
    obtain ⟨nb, hnb⟩ : ∃ z, z = W1.heap.size := ⟨_, rfl⟩
    generalize hY : (W1.alloc (.cells #[.int .u64 p.a, .int .u64 p.b] 53)).drew = Y at HBY HYP ⊢
    rw [← hnb] at HYP ⊢
    have HRY : Hid (EAt Y q x ∧ PAt Y (q + 1) W2.zero ∧ Below q W Y) := Lib.hid ⟨HR.out.1.below HBY.out, HR.out.2.1.below HBY.out, HR.out.2.2.2.trans (HBY.out.mono (by have := HW1.out; omega))⟩
    have HTY := Lib.hid (HT.out.below HBY.out)
    clear hY hnb t0 t1 t2 te r0 r1 t2X teX r0X r1X e2X e0 e1 e2 e3 e4 e5 HR HT HBY
    obtain ⟨e0, e1, e2, e3, e4, e5⟩ := HRY.out.1.cells
    rw [eb] at e3
    go_wp2_with fail
    refine (behind_any HTY.out HOK.out zb HL.out.2 nb p HTO.out HYP.out i HI.out.2).mono ?_
    rintro e w3 ⟨s, rfl, hso, hsh, hB3⟩
    have HR3 : Hid (PAt w3 (q + 1) W2.zero ∧ Below q W w3) := Lib.hid ⟨HRY.out.2.1.below hB3, HRY.out.2.2.trans (hB3.mono (by have := HRY.out.2.1.lt; omega))⟩
    have HSS : Hid (s.Ok ∧ ∀ j, s.has j = true ↔ Ab.One es (Ab.rt rs) wd (TT tb) k i j) := Lib.hid ⟨hso, fun j => by
      rw [hsh j, HO.out j]
      exact ⟨fun ⟨m, h1, h2, h3, h4⟩ => ⟨m, (HFA.out m).1 h3, h4⟩, fun ⟨m, h1, h2⟩ => ⟨m, (HFW.out m ((HFA.out m).2 h1)).1, (HFW.out m ((HFA.out m).2 h1)).2, (HFA.out m).2 h1, h2⟩⟩⟩
    clear hso hsh hB3 e0 e1 e2 e3 e4 e5
    obtain ⟨b0, b1⟩ := HR3.out.1.cells
    have fb0 := blk_frozen HR3.out.1 0
    have fb1 := blk_frozen HR3.out.1 1
    go_wp2_with fail
    clear b0 b1 fb0 fb1
    have hz : PAt ((w3.setCell ⟨q + 1, 0, none⟩ (.int .u64 s.a)).setCell ⟨q + 1, 1, none⟩ (.int .u64 s.b)) (q + 1) s := blk_put (blk_put HR3.out.1 0 (.int .u64 s.a) rfl) 1 (.int .u64 s.b) rfl
    have hzb := Lib.hid (((HR3.out.2 : Below q W w3).setCell (p := ⟨q + 1, 0, none⟩) (show q ≤ q + 1 by omega) (.int .u64 s.a)).setCell (p := ⟨q + 1, 1, none⟩) (show q ≤ q + 1 by omega) (.int .u64 s.b))
    generalize ((w3.setCell ⟨q + 1, 0, none⟩ (.int .u64 s.a)).setCell ⟨q + 1, 1, none⟩ (.int .u64 s.b)) = Z at hz hzb ⊢
    obtain ⟨z0, z1⟩ := hz.cells
    clear hz
    refine bodyPost_ret (v := .agg #[.int .u64 s.a, .int .u64 s.b]) (by simp [results, Tryd.results19, go_sem, z0, z1]) rfl ?_
    exact ⟨s, rfl, HSS.out.1, HSS.out.2, by rw [HQ.out]; exact hzb.out⟩
end
end Go.Proofs.YtckcgiimeaklcaaDoor
