/-
  The table's one, at texts and spans: walked.
-/
import Derived.Test.YtckcgiimeaklcaaDoorTm
import Derived.BigRegion
import Derived.Deep.DeepCutAuto
namespace Go.Proofs.YtckcgiimeaklcaaDoor
set_option linter.unusedVariables false
set_option linter.unusedSimpArgs false
open Go.RowKit Go.Proofs.YtckcgiimeaklcaaDoorW.PrintWords
open Ab (T El R Rs sz rootI post els root hasR szs Tb TT)
namespace Ab
/-- The number of a rule's root, as a number. -/
def rt (rs : Rs) (b : B) : Option Nat := (root 0 rs b).map Int.toNat
theorem one_iff {es : List El} {f : B → Option Nat} {w : B} {X : Nat → Nat → Nat → Prop} {k i j : Nat} {x : El} (hx : es[k]? = some x) : One es f w X k i j ↔
  ((x.k = 0 ∧ LitAt w x.t i ∧ j = i + x.t.length) ∨
   (x.k = 1 ∧ SpnAt w x.lo x.hi i ∧ j = i + 1) ∨
   (x.k = 2 ∧ ∃ r, f x.t = some r ∧ X r i j) ∨
   (x.k = 3 ∧ ∃ m, X x.a.toNat i m ∧ X x.b.toNat m j) ∨
   (x.k = 4 ∧ (X x.a.toNat i j ∨ X x.b.toNat i j)) ∨
   (x.k = 5 ∧ Ofts (X x.a.toNat) x.lo x.hi i j)) := by
  constructor
  · rintro ⟨y, hy, o⟩
    rw [hx] at hy
    cases hy
    exact o
  · exact fun o => ⟨x, hx, o⟩
end Ab
section
variable {w0 W W' : World} {gt gg bm : Nat} {es : List El} {rs : Rs} {A : Option Addr} {c : Nat} {vL : Value} {wd : List UInt8} {tb : Tb} {ge cap : Nat} {gs : Nat → Nat}
/-- What one comes to. -/
def OutOne (W : World) (es : List El) (rs : Rs) (wd : List UInt8) (tb : Tb) (k i : Nat) (e : Ending) (w' : World) : Prop :=
  ∃ p : W2, e = .returned (.agg #[.int .u64 p.a, .int .u64 p.b]) ∧ p.Ok ∧ (∀ j, p.has j = true ↔ Ab.One es (Ab.rt rs) wd (TT tb) k i j) ∧ Below W.heap.size W w'
set_option maxRecDepth 100000 in
set_option maxHeartbeats 2000000 in
theorem one_txt (h : TbAt w0 W gt gg bm es rs A c vL wd tb ge cap gs) (hok : ∀ k i, (tb k i).Ok) (hF : Ab.Fwd wd tb) (x : El) (k i : Nat) (hx : es[k]? = some x) (hk : k < es.length) (hii : i ≤ wd.length) (hxo : x.Ok k) (hkind : x.k = 0) :
    Calls Tryd.prog 19 #[.pointer (some ⟨gt, 0, none⟩), .agg (elC x).toArray, .int .i64 i] W (OutOne W es rs wd tb k i) := by
  have HO : Hid (∀ j, Ab.One es (Ab.rt rs) wd (TT tb) k i j ↔ (Ab.LitAt wd x.t i ∧ j = i + x.t.length)) := Lib.hid (fun j => by rw [Ab.one_iff hx, hkind]; simp)
  have HXO := Lib.hid hxo
  clear hx hxo
  have H := Lib.hid h
  have HOK := Lib.hid hok
  have HF := Lib.hid hF
  have HI := Lib.hid (And.intro hk hii)
  have hwl := h.wl
  have hnl := h.nl
  clear h hok hF
  go_enter Tryd.func19, Tryd.ntmps19
  go_upto_region 2 with (fail)
  obtain ⟨W1, hW1⟩ : ∃ z, z = ((W.alloc (.cells (elC x).toArray 45)).alloc (.cells #[.int .u64 0, .int .u64 0] 53)).alloc (.cells #[.int .u64 0, .int .u64 0] 53) := ⟨_, rfl⟩
  have hB1 : Below W.heap.size W W1 := by rw [hW1]; (repeat (first | exact Below.refl _ _ | assumption | refine Below.drew ?_ | refine Below.alloc ?_ (by first | exact Nat.le_refl _ | (simp; done) | (simp; omega) | omega) _ | refine Below.setCell ?_ (by first | exact Nat.le_refl _ | (simp; done) | (simp; omega) | omega) _))
  have hE : EAt W1 W.heap.size x := by rw [hW1]; exact blk_alloc (blk_alloc (blk_new W _) _) _
  have hP6 : PAt W1 (W.heap.size + 1) W2.zero := by rw [hW1]; exact blk_alloc (ab_new_at _ _ _ (by simp)) _
  have hP7 : PAt W1 (W.heap.size + 2) W2.zero := by rw [hW1]; exact ab_new_at _ _ _ (by simp)
  rw [← hW1]
  have HT := Lib.hid (H.out.below hB1)
  have HR : Hid (EAt W1 W.heap.size x ∧ PAt W1 (W.heap.size + 1) W2.zero ∧ PAt W1 (W.heap.size + 2) W2.zero ∧ Below W.heap.size W W1) := Lib.hid ⟨hE, hP6, hP7, hB1⟩
  obtain ⟨q, hq⟩ : ∃ q, W.heap.size = q := ⟨_, rfl⟩
  have HQ := Lib.hid hq
  rw [hq] at HR ⊢
  clear hW1 hB1 hE hP6 hP7 hq
  obtain ⟨e0, e1, e2, e3, e4, e5⟩ := HR.out.1.cells
  have tk0 : (x.k == 0) = ((0 : Int) == 0) := by rw [hkind]
  have tk1 : (x.k == 1) = ((0 : Int) == 1) := by rw [hkind]
  have tk2 : (x.k == 2) = ((0 : Int) == 2) := by rw [hkind]
  have tk3 : (x.k == 3) = ((0 : Int) == 3) := by rw [hkind]
  have tk4 : (x.k == 4) = ((0 : Int) == 4) := by rw [hkind]
  have tk5 : (x.k == 5) = ((0 : Int) == 5) := by rw [hkind]
  simp only [Int.reduceBEq] at tk0 tk1 tk2 tk3 tk4 tk5
  clear hkind
  go_wp2_with fail
  refine (literalat_any wd x.t gt i W1 hwl HI.out.2 HXO.out.1 HT.out.cells.2.1).mono ?_
  rintro e w2 ⟨b, rfl, hb, hB2⟩
  have HR2 : Hid (EAt w2 q x ∧ PAt w2 (q + 1) W2.zero ∧ PAt w2 (q + 2) W2.zero ∧ Below q W w2) := Lib.hid ⟨HR.out.1.below hB2, HR.out.2.1.below hB2, HR.out.2.2.1.below hB2, HR.out.2.2.2.trans (hB2.mono (by have := HR.out.1; have := blk_lt this; omega))⟩
  have HBB := Lib.hid hb
  clear e0 e1 e2 e3 e4 e5 HR HT hb hB2
  obtain ⟨e0, e1, e2, e3, e4, e5⟩ := HR2.out.1.cells
  cases b
  ·
    obtain ⟨b0, b1⟩ := (HR2.out.2.1 : PAt w2 (q + 1) W2.zero).cells
    have fb0 := blk_frozen (HR2.out.2.1 : PAt w2 (q + 1) W2.zero) 0
    have fb1 := blk_frozen (HR2.out.2.1 : PAt w2 (q + 1) W2.zero) 1
    obtain ⟨o0, o1⟩ := (HR2.out.2.2.1 : PAt w2 (q + 2) W2.zero).cells
    go_wp2_with fail
    clear b0 b1 fb0 fb1 o0 o1
    have hz : PAt ((w2.setCell ⟨q + 1, 0, none⟩ (.int .u64 W2.zero.a)).setCell ⟨q + 1, 1, none⟩ (.int .u64 W2.zero.b)) (q + 1) W2.zero := blk_put (blk_put HR2.out.2.1 0 (.int .u64 W2.zero.a) rfl) 1 (.int .u64 W2.zero.b) rfl
    have hzb := Lib.hid (((HR2.out.2.2.2 : Below q W w2).setCell (p := ⟨q + 1, 0, none⟩) (show q ≤ q + 1 by omega) (.int .u64 W2.zero.a)).setCell (p := ⟨q + 1, 1, none⟩) (show q ≤ q + 1 by omega) (.int .u64 W2.zero.b))
    generalize ((w2.setCell ⟨q + 1, 0, none⟩ (.int .u64 W2.zero.a)).setCell ⟨q + 1, 1, none⟩ (.int .u64 W2.zero.b)) = Z at hz hzb ⊢
    obtain ⟨z0, z1⟩ := hz.cells
    clear hz
    refine bodyPost_ret (v := .agg #[.int .u64 W2.zero.a, .int .u64 W2.zero.b]) (by simp [results, Tryd.results19, go_sem, z0, z1]) rfl ?_
    refine ⟨W2.zero, rfl, W2.ok_zero, fun j => ?_, by rw [HQ.out]; exact hzb.out⟩
    rw [HO.out j, W2.has_zero]
    constructor
    · intro h; cases h
    · rintro ⟨h, _⟩
      exact HBB.out.2 h
  · have hlit := HBB.out.1 rfl
    have hlen := hlit.1
    have HLIT := Lib.hid hlit
    obtain ⟨z, hz⟩ : ∃ z, i + x.t.length = z := ⟨_, rfl⟩
    have ez : (i : Int) + (x.t.length : Int) = (z : Int) := by omega
    have wz : IntKind.i64.wrap (z : Int) = (z : Int) := IntWalk.i64_in _ (by omega)
    clear hlit
    go_wp2_with fail
    refine (padd_any W2.zero W2.ok_zero (q + 2) z (by omega) w2 HR2.out.2.2.1).mono ?_
    rintro e w3 ⟨rfl, hP, hG⟩
    have HR3 : Hid (PAt w3 (q + 1) W2.zero ∧ PAt w3 (q + 2) (W2.zero.put z) ∧ Below q W w3) := Lib.hid ⟨HR2.out.2.1.grown hG (by omega), hP, below_grown HR2.out.2.2.2 hG (by have := HR2.out.2.2.1.lt; omega) (by omega)⟩
    have HPZ : Hid (∀ j, (W2.zero.put z).has j = decide (j = z)) := Lib.hid (fun j => by rw [W2.has_put _ _ (by omega), W2.has_zero, Bool.false_or])
    have HPO := Lib.hid (W2.ok_put W2.ok_zero z)
    clear hP hG HR2 e0 e1 e2 e3 e4 e5
    generalize W2.zero.put z = p at *
    obtain ⟨b0, b1⟩ := (HR3.out.1 : PAt w3 (q + 1) W2.zero).cells
    have fb0 := blk_frozen (HR3.out.1 : PAt w3 (q + 1) W2.zero) 0
    have fb1 := blk_frozen (HR3.out.1 : PAt w3 (q + 1) W2.zero) 1
    obtain ⟨o0, o1⟩ := (HR3.out.2.1 : PAt w3 (q + 2) p).cells
    go_wp2_with fail
    clear b0 b1 fb0 fb1 o0 o1
    have hz : PAt ((w3.setCell ⟨q + 1, 0, none⟩ (.int .u64 p.a)).setCell ⟨q + 1, 1, none⟩ (.int .u64 p.b)) (q + 1) p := blk_put (blk_put HR3.out.1 0 (.int .u64 p.a) rfl) 1 (.int .u64 p.b) rfl
    have hzb := Lib.hid (((HR3.out.2.2 : Below q W w3).setCell (p := ⟨q + 1, 0, none⟩) (show q ≤ q + 1 by omega) (.int .u64 p.a)).setCell (p := ⟨q + 1, 1, none⟩) (show q ≤ q + 1 by omega) (.int .u64 p.b))
    generalize ((w3.setCell ⟨q + 1, 0, none⟩ (.int .u64 p.a)).setCell ⟨q + 1, 1, none⟩ (.int .u64 p.b)) = Z at hz hzb ⊢
    obtain ⟨z0, z1⟩ := hz.cells
    clear hz
    refine bodyPost_ret (v := .agg #[.int .u64 p.a, .int .u64 p.b]) (by simp [results, Tryd.results19, go_sem, z0, z1]) rfl ?_
    refine ⟨p, rfl, HPO.out, fun j => ?_, by rw [HQ.out]; exact hzb.out⟩
    rw [HO.out j, HPZ.out j, decide_eq_true_eq, hz]
    exact ⟨fun h => ⟨HLIT.out, h⟩, fun h => h.2⟩
set_option maxRecDepth 100000 in
set_option maxHeartbeats 2000000 in
theorem one_oft (h : TbAt w0 W gt gg bm es rs A c vL wd tb ge cap gs) (hok : ∀ k i, (tb k i).Ok) (hF : Ab.Fwd wd tb) (x : El) (k i : Nat) (hx : es[k]? = some x) (hk : k < es.length) (hii : i ≤ wd.length) (hxo : x.Ok k) (hkind : x.k = 5) :
    Calls Tryd.prog 19 #[.pointer (some ⟨gt, 0, none⟩), .agg (elC x).toArray, .int .i64 i] W (OutOne W es rs wd tb k i) := by
  have HO : Hid (∀ j, Ab.One es (Ab.rt rs) wd (TT tb) k i j ↔ Ab.Ofts (TT tb x.a.toNat) x.lo x.hi i j) := Lib.hid (fun j => by rw [Ab.one_iff hx, hkind]; simp)
  have HXO : Hid (0 ≤ x.a ∧ x.a < k ∧ 0 ≤ x.lo ∧ x.lo ≤ 99 ∧ (x.hi = -1 ∨ (x.lo ≤ x.hi ∧ x.hi ≤ 99))) := Lib.hid (by
    rcases hxo.2 with h | h | h | ⟨h | h, _⟩ | ⟨_, h⟩
    · omega
    · omega
    · omega
    · omega
    · omega
    · exact h)
  clear hx hxo
  have H := Lib.hid h
  have HOK := Lib.hid hok
  have HF := Lib.hid hF
  have HI := Lib.hid (And.intro hk hii)
  have hwl := h.wl
  have hnl := h.nl
  clear h hok hF
  go_enter Tryd.func19, Tryd.ntmps19
  go_upto_region 2 with (fail)
  obtain ⟨W1, hW1⟩ : ∃ z, z = ((W.alloc (.cells (elC x).toArray 45)).alloc (.cells #[.int .u64 0, .int .u64 0] 53)).alloc (.cells #[.int .u64 0, .int .u64 0] 53) := ⟨_, rfl⟩
  have hB1 : Below W.heap.size W W1 := by rw [hW1]; (repeat (first | exact Below.refl _ _ | assumption | refine Below.drew ?_ | refine Below.alloc ?_ (by first | exact Nat.le_refl _ | (simp; done) | (simp; omega) | omega) _ | refine Below.setCell ?_ (by first | exact Nat.le_refl _ | (simp; done) | (simp; omega) | omega) _))
  have hE : EAt W1 W.heap.size x := by rw [hW1]; exact blk_alloc (blk_alloc (blk_new W _) _) _
  have hP6 : PAt W1 (W.heap.size + 1) W2.zero := by rw [hW1]; exact blk_alloc (ab_new_at _ _ _ (by simp)) _
  have hP7 : PAt W1 (W.heap.size + 2) W2.zero := by rw [hW1]; exact ab_new_at _ _ _ (by simp)
  rw [← hW1]
  have HT := Lib.hid (H.out.below hB1)
  have HR : Hid (EAt W1 W.heap.size x ∧ PAt W1 (W.heap.size + 1) W2.zero ∧ PAt W1 (W.heap.size + 2) W2.zero ∧ Below W.heap.size W W1) := Lib.hid ⟨hE, hP6, hP7, hB1⟩
  obtain ⟨q, hq⟩ : ∃ q, W.heap.size = q := ⟨_, rfl⟩
  have HQ := Lib.hid hq
  rw [hq] at HR ⊢
  clear hW1 hB1 hE hP6 hP7 hq
  obtain ⟨e0, e1, e2, e3, e4, e5⟩ := HR.out.1.cells
  have tk0 : (x.k == 0) = ((5 : Int) == 0) := by rw [hkind]
  have tk1 : (x.k == 1) = ((5 : Int) == 1) := by rw [hkind]
  have tk2 : (x.k == 2) = ((5 : Int) == 2) := by rw [hkind]
  have tk3 : (x.k == 3) = ((5 : Int) == 3) := by rw [hkind]
  have tk4 : (x.k == 4) = ((5 : Int) == 4) := by rw [hkind]
  have tk5 : (x.k == 5) = ((5 : Int) == 5) := by rw [hkind]
  simp only [Int.reduceBEq] at tk0 tk1 tk2 tk3 tk4 tk5
  clear hkind
  go_wp2_with fail
  refine (times_any HT.out HOK.out HF.out x x.a.toNat x.lo.toNat x.hi (by have := HXO.out; omega) (by have := HXO.out; omega) rfl (by have := HXO.out; have := HI.out.1; omega) (by have := HXO.out; omega) (by have := HXO.out; omega) i HI.out.2).mono ?_
  rintro e w2 ⟨p, rfl, hpo, hph, hB2⟩
  have HR2 : Hid (PAt w2 (q + 1) W2.zero ∧ Below q W w2) := Lib.hid ⟨HR.out.2.1.below hB2, HR.out.2.2.2.trans (hB2.mono (by have := HR.out.1; have := blk_lt this; omega))⟩
  have HP : Hid (p.Ok ∧ ∀ j, p.has j = true ↔ Ab.One es (Ab.rt rs) wd (TT tb) k i j) := Lib.hid ⟨hpo, fun j => by rw [HO.out j, hph j, show ((x.lo.toNat : Nat) : Int) = x.lo by have := HXO.out; omega]⟩
  clear e0 e1 e2 e3 e4 e5 HR HT hpo hph hB2
  obtain ⟨b0, b1⟩ := HR2.out.1.cells
  have fb0 := blk_frozen HR2.out.1 0
  have fb1 := blk_frozen HR2.out.1 1
  go_wp2_with fail
  clear b0 b1 fb0 fb1
  have hz : PAt ((w2.setCell ⟨q + 1, 0, none⟩ (.int .u64 p.a)).setCell ⟨q + 1, 1, none⟩ (.int .u64 p.b)) (q + 1) p := blk_put (blk_put HR2.out.1 0 (.int .u64 p.a) rfl) 1 (.int .u64 p.b) rfl
  have hzb := Lib.hid (((HR2.out.2 : Below q W w2).setCell (p := ⟨q + 1, 0, none⟩) (show q ≤ q + 1 by omega) (.int .u64 p.a)).setCell (p := ⟨q + 1, 1, none⟩) (show q ≤ q + 1 by omega) (.int .u64 p.b))
  generalize ((w2.setCell ⟨q + 1, 0, none⟩ (.int .u64 p.a)).setCell ⟨q + 1, 1, none⟩ (.int .u64 p.b)) = Z at hz hzb ⊢
  obtain ⟨z0, z1⟩ := hz.cells
  clear hz
  refine bodyPost_ret (v := .agg #[.int .u64 p.a, .int .u64 p.b]) (by simp [results, Tryd.results19, go_sem, z0, z1]) rfl ?_
  exact ⟨p, rfl, HP.out.1, HP.out.2, by rw [HQ.out]; exact hzb.out⟩
end
end Go.Proofs.YtckcgiimeaklcaaDoor
