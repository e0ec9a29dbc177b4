/-
  The table's one, at spans: walked.
-/
import Derived.Test.YtckcgiimeaklcaaDoorOn
namespace Go.Proofs.YtckcgiimeaklcaaDoor
set_option linter.unusedVariables false
set_option linter.unusedSimpArgs false
open Go.RowKit Go.Proofs.YtckcgiimeaklcaaDoorW.PrintWords
open Ab (T El R Rs sz rootI post els root hasR szs Tb TT)
section
variable {w0 W W' : World} {gt gg bm : Nat} {es : List El} {rs : Rs} {A : Option Addr} {c : Nat} {vL : Value} {wd : List UInt8} {tb : Tb} {ge cap : Nat} {gs : Nat → Nat}
set_option maxRecDepth 100000 in
set_option maxHeartbeats 2000000 in
theorem one_spn (h : TbAt w0 W gt gg bm es rs A c vL wd tb ge cap gs) (hok : ∀ k i, (tb k i).Ok) (hF : Ab.Fwd wd tb) (x : El) (k i : Nat) (hx : es[k]? = some x) (hk : k < es.length) (hii : i ≤ wd.length) (hxo : x.Ok k) (hkind : x.k = 1) :
    Calls Tryd.prog 19 #[.pointer (some ⟨gt, 0, none⟩), .agg (elC x).toArray, .int .i64 i] W (OutOne W es rs wd tb k i) := by
  have HO : Hid (∀ j, Ab.One es (Ab.rt rs) wd (TT tb) k i j ↔ (Ab.SpnAt wd x.lo x.hi i ∧ j = i + 1)) := Lib.hid (fun j => by rw [Ab.one_iff hx, hkind]; simp)
  clear hx hxo
  have H := Lib.hid h
  have HOK := Lib.hid hok
  have HF := Lib.hid hF
  have HI := Lib.hid (And.intro hk hii)
  have hwl := h.wl
  have hnl := h.nl
  clear h hok hF
  go_enter Tryd.func19, Tryd.ntmps19
  go_upto_region 2 with (fail)
  obtain ⟨W1, hW1⟩ : ∃ z, z = ((W.alloc (.cells (elC x).toArray 45)).alloc (.cells #[.int .u64 0, .int .u64 0] 53)).alloc (.cells #[.int .u64 0, .int .u64 0] 53) := ⟨_, rfl⟩
  have hB1 : Below W.heap.size W W1 := by rw [hW1]; (repeat (first | exact Below.refl _ _ | assumption | refine Below.drew ?_ | refine Below.alloc ?_ (by first | exact Nat.le_refl _ | (simp; done) | (simp; omega) | omega) _ | refine Below.setCell ?_ (by first | exact Nat.le_refl _ | (simp; done) | (simp; omega) | omega) _))
  have hE : EAt W1 W.heap.size x := by rw [hW1]; exact blk_alloc (blk_alloc (blk_new W _) _) _
  have hP6 : PAt W1 (W.heap.size + 1) W2.zero := by rw [hW1]; exact blk_alloc (ab_new_at _ _ _ (by simp)) _
  have hP7 : PAt W1 (W.heap.size + 2) W2.zero := by rw [hW1]; exact ab_new_at _ _ _ (by simp)
  rw [← hW1]
  have HT := Lib.hid (H.out.below hB1)
  have HR : Hid (EAt W1 W.heap.size x ∧ PAt W1 (W.heap.size + 1) W2.zero ∧ PAt W1 (W.heap.size + 2) W2.zero ∧ Below W.heap.size W W1) := Lib.hid ⟨hE, hP6, hP7, hB1⟩
  obtain ⟨q, hq⟩ : ∃ q, W.heap.size = q := ⟨_, rfl⟩
  have HQ := Lib.hid hq
  rw [hq] at HR ⊢
  clear hW1 hB1 hE hP6 hP7 hq
  obtain ⟨e0, e1, e2, e3, e4, e5⟩ := HR.out.1.cells
  have tk0 : (x.k == 0) = ((1 : Int) == 0) := by rw [hkind]
  have tk1 : (x.k == 1) = ((1 : Int) == 1) := by rw [hkind]
  have tk2 : (x.k == 2) = ((1 : Int) == 2) := by rw [hkind]
  have tk3 : (x.k == 3) = ((1 : Int) == 3) := by rw [hkind]
  have tk4 : (x.k == 4) = ((1 : Int) == 4) := by rw [hkind]
  have tk5 : (x.k == 5) = ((1 : Int) == 5) := by rw [hkind]
  simp only [Int.reduceBEq] at tk0 tk1 tk2 tk3 tk4 tk5
  clear hkind
  obtain ⟨t0, t1, t2⟩ := HT.out.cells
  obtain ⟨b0, b1⟩ := HR.out.2.1.cells
  have fb0 := blk_frozen HR.out.2.1 0
  have fb1 := blk_frozen HR.out.2.1 1
  obtain ⟨o0, o1⟩ := HR.out.2.2.1.cells
  have wi0 : IntKind.i64.wrap (i : Int) = (i : Int) := IntWalk.i64_in _ (by omega)
  have wi1 : IntKind.i64.wrap ((i : Int) + 1) = (i : Int) + 1 := IntWalk.i64_in _ (by omega)
  have NO : Hid (¬ Ab.SpnAt wd x.lo x.hi i → ∀ j, W2.zero.has j = true ↔ Ab.One es (Ab.rt rs) wd (TT tb) k i j) := Lib.hid (fun hn j => by
    rw [HO.out j, W2.has_zero]
    exact ⟨fun h => Bool.noConfusion h, fun h => absurd h.1 hn⟩)
  by_cases hl : i < wd.length
  · have g1 : decide ((i : Int) < (wd.length : Int)) = true := decide_eq_true (by omega)
    have g2 : (i : Int) < wd.length := by omega
    have g3 : (0 : Int) ≤ (i : Int) := by omega
    obtain ⟨ch, hch⟩ : ∃ ch, wd[i] = ch := ⟨_, rfl⟩
    have wch : IntKind.i64.wrap (ch.toNat : Int) = (ch.toNat : Int) := IntWalk.i64_in _ (by have := ch.toNat_lt; omega)
    have HCH : Hid (wd.getD i 0 = ch) := Lib.hid (by rw [List.getD_eq_getElem?_getD, List.getElem?_eq_getElem hl, hch]; rfl)
    by_cases hlo : x.lo ≤ (ch.toNat : Int)
    · have g4 : decide (x.lo ≤ (ch.toNat : Int)) = true := decide_eq_true hlo
      by_cases hhi : (ch.toNat : Int) ≤ x.hi
      · have g5 : decide ((ch.toNat : Int) ≤ x.hi) = true := decide_eq_true hhi
        have HS : Hid (Ab.SpnAt wd x.lo x.hi i) := Lib.hid ⟨hl, by rw [HCH.out]; exact hlo, by rw [HCH.out]; exact hhi⟩
        go_upto_region 7 with (fail)
        go_quiet (fail)
        go_wp2_with fail
        refine (padd_any W2.zero W2.ok_zero (q + 2) (i + 1) (by omega) (W1.drewN nq) HR.out.2.2.1).mono ?_
        rintro e w3 ⟨rfl, hP, hG⟩
        have hbd : Below q W (W1.drewN nq) := pw_below_drewN HR.out.2.2.2 nq
        have HR3 : Hid (PAt w3 (q + 1) W2.zero ∧ PAt w3 (q + 2) (W2.zero.put (i + 1)) ∧ Below q W w3) := Lib.hid ⟨PAt.grown (W := W1.drewN nq) HR.out.2.1 hG (by omega), hP, below_grown hbd hG (by have := HR.out.2.2.1.lt; exact Nat.le_of_lt (Nat.lt_of_le_of_lt (by omega) this)) (by omega)⟩
        have HPZ : Hid (∀ j, (W2.zero.put (i + 1)).has j = decide (j = i + 1)) := Lib.hid (fun j => by rw [W2.has_put _ _ (by omega), W2.has_zero, Bool.false_or])
        have HPO := Lib.hid (W2.ok_put W2.ok_zero (i + 1))
        clear hP hG hbd e0 e1 e2 e3 e4 e5 t0 t1 t2 b0 b1 fb0 fb1 o0 o1
        generalize W2.zero.put (i + 1) = p at *
        obtain ⟨b0, b1⟩ := (HR3.out.1 : PAt w3 (q + 1) W2.zero).cells
        have fb0 := blk_frozen (HR3.out.1 : PAt w3 (q + 1) W2.zero) 0
        have fb1 := blk_frozen (HR3.out.1 : PAt w3 (q + 1) W2.zero) 1
        obtain ⟨o0, o1⟩ := (HR3.out.2.1 : PAt w3 (q + 2) p).cells
        go_wp2_with fail
        clear b0 b1 fb0 fb1 o0 o1
        have hz : PAt ((w3.setCell ⟨q + 1, 0, none⟩ (.int .u64 p.a)).setCell ⟨q + 1, 1, none⟩ (.int .u64 p.b)) (q + 1) p := blk_put (blk_put HR3.out.1 0 (.int .u64 p.a) rfl) 1 (.int .u64 p.b) rfl
        have hzb := Lib.hid (((HR3.out.2.2 : Below q W w3).setCell (p := ⟨q + 1, 0, none⟩) (show q ≤ q + 1 by omega) (.int .u64 p.a)).setCell (p := ⟨q + 1, 1, none⟩) (show q ≤ q + 1 by omega) (.int .u64 p.b))
        generalize ((w3.setCell ⟨q + 1, 0, none⟩ (.int .u64 p.a)).setCell ⟨q + 1, 1, none⟩ (.int .u64 p.b)) = Z at hz hzb ⊢
        obtain ⟨z0, z1⟩ := hz.cells
        clear hz
        refine bodyPost_ret (v := .agg #[.int .u64 p.a, .int .u64 p.b]) (by simp [results, Tryd.results19, go_sem, z0, z1]) rfl ?_
        refine ⟨p, rfl, HPO.out, fun j => ?_, by rw [HQ.out]; exact hzb.out⟩
        rw [HO.out j, HPZ.out j, decide_eq_true_eq]
        exact ⟨fun h => ⟨HS.out, h⟩, fun h => h.2⟩
      · have g5 : decide ((ch.toNat : Int) ≤ x.hi) = false := decide_eq_false hhi
        have HN := Lib.hid (NO.out (fun h => hhi (by rw [← HCH.out]; exact h.2.2)))
        go_upto_region 7 with (fail)
        go_quiet (fail)
        have HRD : Hid (PAt (W1.drewN nq) (q + 1) W2.zero ∧ Below q W (W1.drewN nq)) := Lib.hid ⟨HR.out.2.1, pw_below_drewN HR.out.2.2.2 nq⟩
        go_wp2_with fail
        clear e0 e1 e2 e3 e4 e5 t0 t1 t2 b0 b1 fb0 fb1 o0 o1
        generalize W1.drewN nq = W1d at HRD ⊢
        have hz : PAt ((W1d.setCell ⟨q + 1, 0, none⟩ (.int .u64 W2.zero.a)).setCell ⟨q + 1, 1, none⟩ (.int .u64 W2.zero.b)) (q + 1) W2.zero := blk_put (blk_put HRD.out.1 0 (.int .u64 W2.zero.a) rfl) 1 (.int .u64 W2.zero.b) rfl
        have hzb := Lib.hid (((HRD.out.2 : Below q W W1d).setCell (p := ⟨q + 1, 0, none⟩) (show q ≤ q + 1 by omega) (.int .u64 W2.zero.a)).setCell (p := ⟨q + 1, 1, none⟩) (show q ≤ q + 1 by omega) (.int .u64 W2.zero.b))
        generalize ((W1d.setCell ⟨q + 1, 0, none⟩ (.int .u64 W2.zero.a)).setCell ⟨q + 1, 1, none⟩ (.int .u64 W2.zero.b)) = Z at hz hzb ⊢
        obtain ⟨z0, z1⟩ := hz.cells
        clear hz
        refine bodyPost_ret (v := .agg #[.int .u64 W2.zero.a, .int .u64 W2.zero.b]) (by simp [results, Tryd.results19, go_sem, z0, z1]) rfl ?_
        exact ⟨W2.zero, rfl, W2.ok_zero, HN.out, by rw [HQ.out]; exact hzb.out⟩
    · have g4 : decide (x.lo ≤ (ch.toNat : Int)) = false := decide_eq_false hlo
      have HN := Lib.hid (NO.out (fun h => hlo (by rw [← HCH.out]; exact h.2.1)))
      go_upto_region 7 with (fail)
      go_quiet (fail)
      have HRD : Hid (PAt (W1.drewN nq) (q + 1) W2.zero ∧ Below q W (W1.drewN nq)) := Lib.hid ⟨HR.out.2.1, pw_below_drewN HR.out.2.2.2 nq⟩
      go_wp2_with fail
      clear e0 e1 e2 e3 e4 e5 t0 t1 t2 b0 b1 fb0 fb1 o0 o1
      generalize W1.drewN nq = W1d at HRD ⊢
      have hz : PAt ((W1d.setCell ⟨q + 1, 0, none⟩ (.int .u64 W2.zero.a)).setCell ⟨q + 1, 1, none⟩ (.int .u64 W2.zero.b)) (q + 1) W2.zero := blk_put (blk_put HRD.out.1 0 (.int .u64 W2.zero.a) rfl) 1 (.int .u64 W2.zero.b) rfl
      have hzb := Lib.hid (((HRD.out.2 : Below q W W1d).setCell (p := ⟨q + 1, 0, none⟩) (show q ≤ q + 1 by omega) (.int .u64 W2.zero.a)).setCell (p := ⟨q + 1, 1, none⟩) (show q ≤ q + 1 by omega) (.int .u64 W2.zero.b))
      generalize ((W1d.setCell ⟨q + 1, 0, none⟩ (.int .u64 W2.zero.a)).setCell ⟨q + 1, 1, none⟩ (.int .u64 W2.zero.b)) = Z at hz hzb ⊢
      obtain ⟨z0, z1⟩ := hz.cells
      clear hz
      refine bodyPost_ret (v := .agg #[.int .u64 W2.zero.a, .int .u64 W2.zero.b]) (by simp [results, Tryd.results19, go_sem, z0, z1]) rfl ?_
      exact ⟨W2.zero, rfl, W2.ok_zero, HN.out, by rw [HQ.out]; exact hzb.out⟩
  · have g1 : decide ((i : Int) < (wd.length : Int)) = false := decide_eq_false (by omega)
    have HN := Lib.hid (NO.out (fun h => hl h.1))
    go_upto_region 7 with (fail)
    go_quiet (fail)
    have HRD : Hid (PAt (W1.drewN nq) (q + 1) W2.zero ∧ Below q W (W1.drewN nq)) := Lib.hid ⟨HR.out.2.1, pw_below_drewN HR.out.2.2.2 nq⟩
    go_wp2_with fail
    clear e0 e1 e2 e3 e4 e5 t0 t1 t2 b0 b1 fb0 fb1 o0 o1
    generalize W1.drewN nq = W1d at HRD ⊢
    have hz : PAt ((W1d.setCell ⟨q + 1, 0, none⟩ (.int .u64 W2.zero.a)).setCell ⟨q + 1, 1, none⟩ (.int .u64 W2.zero.b)) (q + 1) W2.zero := blk_put (blk_put HRD.out.1 0 (.int .u64 W2.zero.a) rfl) 1 (.int .u64 W2.zero.b) rfl
    have hzb := Lib.hid (((HRD.out.2 : Below q W W1d).setCell (p := ⟨q + 1, 0, none⟩) (show q ≤ q + 1 by omega) (.int .u64 W2.zero.a)).setCell (p := ⟨q + 1, 1, none⟩) (show q ≤ q + 1 by omega) (.int .u64 W2.zero.b))
    generalize ((W1d.setCell ⟨q + 1, 0, none⟩ (.int .u64 W2.zero.a)).setCell ⟨q + 1, 1, none⟩ (.int .u64 W2.zero.b)) = Z at hz hzb ⊢
    obtain ⟨z0, z1⟩ := hz.cells
    clear hz
    refine bodyPost_ret (v := .agg #[.int .u64 W2.zero.a, .int .u64 W2.zero.b]) (by simp [results, Tryd.results19, go_sem, z0, z1]) rfl ?_
    exact ⟨W2.zero, rfl, W2.ok_zero, HN.out, by rw [HQ.out]; exact hzb.out⟩
end
end Go.Proofs.YtckcgiimeaklcaaDoor
