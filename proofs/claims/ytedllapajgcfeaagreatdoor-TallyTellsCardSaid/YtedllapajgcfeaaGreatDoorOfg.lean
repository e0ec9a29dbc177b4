/-
  tally.Of of any at most a thousand numbers: walked.
-/
import Derived.Test.YtedllapajgcfeaaGreatDoorTsa
import Derived.Test.YtedllapajgcfeaaGreatDoorSum5
namespace Go.Proofs.YtedllapajgcfeaaGreatDoor
set_option linter.unusedVariables false
set_option linter.unusedSimpArgs false
open Go.RowKit Go.Proofs.YtedllapajgcfeaaGreatDoorW.PrintWords

def OfOut (l : List Nat) (w : World) (e : Ending) (w' : World) : Prop := ∃ M : List Nat, e = .returned (.agg (tyC (tly l.length (keepL M))).toArray) ∧ M.Perm (canonL l) ∧ So 0 l.length M ∧ Below w.heap.size w w'
theorem del_n (T : List Value) (g cap N : Nat) (L : List Nat) (hN : L.length = N) (hL : N ≤ 1000) (h64 : Fin64 L) (hcap : N ≤ cap) (w : World) (hg : RowF T w g L) : Calls Tryz.prog 26 #[.slice (some ⟨g, 0, none⟩) N cap, .func (.func 28) #[] #[]] w (DelOut g L w) := by
  subst hN
  exact del_any T g cap L hL h64 hcap w hg
theorem run_fadd (a b : Nat) (ha : nanB a = false) (hb : oddB b = false) (W : World) : (binOp .add 22 (.float .f64 a) (.float .f64 b)).run Tryz.prog W = .ok (.float .f64 (fadd a b)) W := run_float_arith W .add _ .f64 a b _ (add_ok ha hb).1
theorem run_fdiv (a n : Nat) (ha : nanB a = false) (h1 : 1 ≤ n) (h2 : n ≤ 1000) (W : World) : (binOp .quo 22 (.float .f64 a) (.float .f64 (fint n))).run Tryz.prog W = .ok (.float .f64 (fdiv a (fint n))) W := run_float_arith W .quo _ .f64 a (fint n) _ (div_ok ha h1 h2).1
theorem run_fint (n : Nat) (W : World) : (convert 3 22 (.int .i64 (n : Int))).run Tryz.prog W = .ok (.float .f64 (fint n)) W := run_convert_int_float (P := Tryz.prog) (w := W) 3 22 .i64 .f64 (n : Int) (by kernel_rfl) Tryz.underlying22
set_option maxRecDepth 100000 in
set_option maxHeartbeats 6400000 in
theorem of_any (A : Option Addr) (c : Nat) (l : List Nat) (hl : l.length ≤ 1000) (h64 : Fin64 l) (w : World) (hA : ArgF w A l) :
    Calls Tryz.prog 10 #[.slice A l.length c] w (OfOut l w) := by
  have HA := Lib.hid hA
  clear hA
  go_enter Tryz.func10, Tryz.ntmps10
  go_wp2_with fail
  obtain ⟨W1, hW1⟩ : ∃ W1, W1 = w.alloc (.cells #[.int .i64 0, .int .i64 0, .float .f64 0, .float .f64 0, .float .f64 0] 34) := ⟨_, rfl⟩
  have hB0 : Below w.heap.size w W1 := by rw [hW1]; exact (Below.refl _ _).alloc (Nat.le_refl _) _
  have hr0 : W1.heap[w.heap.size]? = some (.cells #[.int .i64 0, .int .i64 0, .float .f64 0, .float .f64 0, .float .f64 0] 34) := by rw [hW1]; exact blk_new w _
  rw [← hW1]
  clear hW1
  refine (tsort_all A c l hl h64 W1 (HA.out.below hB0)).mono ?_
  rintro e w1 ⟨g, cap, T, M, rfl, HM, hMp, hMs, hgl, hcap, B1⟩
  have hMl : M.length = l.length := hMp.length_eq.trans (canonL_len l)
  have hM64 : Fin64 M := (canon64 h64).perm hMp
  have HMM := Lib.hid (And.intro hMp hMs)
  have hr1 := blk_below hr0 B1
  have hgr : w.heap.size < g := Nat.lt_of_lt_of_le (blk_lt hr0) hgl
  have HD := Lib.hid (del_n T g cap l.length M hMl hl hM64 hcap w1 HM)
  have HR1 := Lib.hid hr1
  have HB1 := Lib.hid (bthen hB0 B1)
  have HGR := Lib.hid hgr
  have HML := Lib.hid (And.intro hMl hM64)
  clear HM hr0 hr1 hB0 B1 hgr hgl hcap hMp hMs hMl hM64
  go_wp2_with fail
  refine HD.out.mono ?_
  rintro e w2 ⟨cap2, T2, rfl, HR2, hcap2, HX2⟩
  have hr2 : w2.heap[w.heap.size]? = some (.cells #[.int .i64 0, .int .i64 0, .float .f64 0, .float .f64 0, .float .f64 0] 34) := (HX2.1.block _ HGR.out).trans HR1.out
  have hB2 : Below w.heap.size w w2 := HB1.out.trans (HX2.1.mono (Nat.le_of_lt HGR.out))
  have HFL : Hid ((keepL M).length ≤ l.length ∧ (∀ x ∈ keepL M, oddB x = false) ∧ (∀ x ∈ keepL M, x < 18446744073709551616)) := Lib.hid ⟨by rw [← HML.out.1]; exact keep_le M, keep_odd M, fun x hx => HML.out.2 x (List.mem_filter.1 hx).1⟩
  generalize hF : keepL M = F at HR2 hcap2 HFL
  have HF := Lib.hid hF
  have HRR := Lib.hid hr2
  have HB2 := Lib.hid hB2
  have HR2 := Lib.hid HR2
  have hfl := HFL.out.1
  have hwi : (0 : Int) ≤ (F.length : Int) := by omega
  obtain ⟨od, hod⟩ : ∃ od : Nat, l.length - F.length = od := ⟨_, rfl⟩
  have e1 : (l.length : Int) - (F.length : Int) = (od : Int) := by omega
  have wo : IntKind.i64.wrap (od : Int) = (od : Int) := IntWalk.i64_in _ (by omega)
  have HOD := Lib.hid hod
  clear HD HX2 hr2 hB2 HR1 HB1 hF hod
  go_wp2_with fail
  refine (inf_up _).mono ?_
  rintro e w3 ⟨rfl, rfl⟩
  go_wp2_with fail
  refine (inf_down _).mono ?_
  rintro e w3 ⟨rfl, rfl⟩
  go_wp2_with fail
  refine (nan_any _).mono ?_
  rintro e w3 ⟨rfl, rfl⟩
  by_cases hF0 : F = []
  · subst hF0
    have hodl : od = l.length := by have := HOD.out; simp at this; omega
    subst hodl
    have HTY : Hid (tly l.length (keepL M) = ⟨l.length, l.length, 9218868437227405312, 18442240474082181120, 9221120237041090561⟩) := Lib.hid (by rw [HF.out]; rfl)
    clear e1
    go_upto_if 24 with (fail)
    obtain ⟨Wf, hWf⟩ : ∃ Wf, Wf = w2.alloc (.cells #[.int .i64 l.length, .int .i64 l.length, .float .f64 9218868437227405312, .float .f64 18442240474082181120, .float .f64 9221120237041090561] 34) := ⟨_, rfl⟩
    have hB3 : Below w2.heap.size w2 Wf := by rw [hWf]; exact (Below.refl _ _).alloc (Nat.le_refl _) _
    have hg : Wf.heap[w2.heap.size]? = some (.cells #[.int .i64 l.length, .int .i64 l.length, .float .f64 9218868437227405312, .float .f64 18442240474082181120, .float .f64 9221120237041090561] 34) := by rw [hWf]; exact blk_new w2 _
    have hr := blk_below HRR.out hB3
    have hB : Below w.heap.size w Wf := HB2.out.trans (hB3.mono HB2.out.size)
    rw [← hWf]
    clear hWf hB3
    generalize w2.heap.size = gt at *
    have g0 : Wf.cell? ⟨gt, 0, none⟩ = some (.int .i64 l.length) := (blk_cell hg 0).trans rfl
    have g1 : Wf.cell? ⟨gt, 1, none⟩ = some (.int .i64 l.length) := (blk_cell hg 1).trans rfl
    have g2 : Wf.cell? ⟨gt, 2, none⟩ = some (.float .f64 9218868437227405312) := (blk_cell hg 2).trans rfl
    have g3 : Wf.cell? ⟨gt, 3, none⟩ = some (.float .f64 18442240474082181120) := (blk_cell hg 3).trans rfl
    have g4 : Wf.cell? ⟨gt, 4, none⟩ = some (.float .f64 9221120237041090561) := (blk_cell hg 4).trans rfl
    have r0 : Wf.cell? ⟨w.heap.size, 0, none⟩ = some (.int .i64 0) := (blk_cell hr 0).trans rfl
    have r1 : Wf.cell? ⟨w.heap.size, 1, none⟩ = some (.int .i64 0) := (blk_cell hr 1).trans rfl
    have r2 : Wf.cell? ⟨w.heap.size, 2, none⟩ = some (.float .f64 0) := (blk_cell hr 2).trans rfl
    have r3 : Wf.cell? ⟨w.heap.size, 3, none⟩ = some (.float .f64 0) := (blk_cell hr 3).trans rfl
    have r4 : Wf.cell? ⟨w.heap.size, 4, none⟩ = some (.float .f64 0) := (blk_cell hr 4).trans rfl
    have f0 := blk_frozen hr 0
    have f1 := blk_frozen hr 1
    have f2 := blk_frozen hr 2
    have f3 := blk_frozen hr 3
    have f4 := blk_frozen hr 4
    have hlt := blk_lt hr
    have HBf := Lib.hid hB
    have HRB := Lib.hid hr
    clear hg hr hB
    go_wp2_with fail
    obtain ⟨Wz, hWz⟩ : ∃ Wz, Wz = (((((Wf.setCell ⟨w.heap.size, 0, none⟩ (.int .i64 l.length)).setCell ⟨w.heap.size, 1, none⟩ (.int .i64 l.length)).setCell ⟨w.heap.size, 2, none⟩ (.float .f64 9218868437227405312)).setCell ⟨w.heap.size, 3, none⟩ (.float .f64 18442240474082181120)).setCell ⟨w.heap.size, 4, none⟩ (.float .f64 9221120237041090561)) := ⟨_, rfl⟩
    have hz : Wz.heap[w.heap.size]? = some (.cells #[.int .i64 l.length, .int .i64 l.length, .float .f64 9218868437227405312, .float .f64 18442240474082181120, .float .f64 9221120237041090561] 34 (0, 0)) := by
      rw [hWz]
      exact blk_put (blk_put (blk_put (blk_put (blk_put HRB.out 0 _ rfl) 1 _ rfl) 2 _ rfl) 3 _ rfl) 4 _ rfl
    have hbz : Below w.heap.size w Wz := by
      rw [hWz]
      exact ((((HBf.out.setCell (p := ⟨w.heap.size, 0, none⟩) (Nat.le_refl _) _).setCell (p := ⟨w.heap.size, 1, none⟩) (Nat.le_refl _) _).setCell (p := ⟨w.heap.size, 2, none⟩) (Nat.le_refl _) _).setCell (p := ⟨w.heap.size, 3, none⟩) (Nat.le_refl _) _).setCell (p := ⟨w.heap.size, 4, none⟩) (Nat.le_refl _) _
    with_reducible change bodyPost _ _ _ _ _ (((((Wf.setCell ⟨w.heap.size, 0, none⟩ (.int .i64 l.length)).setCell ⟨w.heap.size, 1, none⟩ (.int .i64 l.length)).setCell ⟨w.heap.size, 2, none⟩ (.float .f64 9218868437227405312)).setCell ⟨w.heap.size, 3, none⟩ (.float .f64 18442240474082181120)).setCell ⟨w.heap.size, 4, none⟩ (.float .f64 9221120237041090561))
    rw [← hWz]
    clear hWz r0 r1 r2 r3 r4 f0 f1 f2 f3 f4 g0 g1 g2 g3 g4 hlt
    have r0 : Wz.cell? ⟨w.heap.size, 0, none⟩ = some (.int .i64 l.length) := (blk_cell hz 0).trans rfl
    have r1 : Wz.cell? ⟨w.heap.size, 1, none⟩ = some (.int .i64 l.length) := (blk_cell hz 1).trans rfl
    have r2 : Wz.cell? ⟨w.heap.size, 2, none⟩ = some (.float .f64 9218868437227405312) := (blk_cell hz 2).trans rfl
    have r3 : Wz.cell? ⟨w.heap.size, 3, none⟩ = some (.float .f64 18442240474082181120) := (blk_cell hz 3).trans rfl
    have r4 : Wz.cell? ⟨w.heap.size, 4, none⟩ = some (.float .f64 9221120237041090561) := (blk_cell hz 4).trans rfl
    have HFIN : Hid (OfOut l w (.returned (.agg #[.int .i64 l.length, .int .i64 l.length, .float .f64 9218868437227405312, .float .f64 18442240474082181120, .float .f64 9221120237041090561])) Wz) := Lib.hid ⟨M, by rw [HTY.out]; rfl, HMM.out.1, HMM.out.2, hbz⟩
    clear hz hbz
    refine bodyPost_ret (v := .agg #[.int .i64 l.length, .int .i64 l.length, .float .f64 9218868437227405312, .float .f64 18442240474082181120, .float .f64 9221120237041090561]) ?_ rfl HFIN.out
    simp [results, Tryz.results10, go_sem, r0, r1, r2, r3, r4]
  · have hF1 : 1 ≤ F.length := by
      rcases F with _ | ⟨x, F⟩
      · exact absurd rfl hF0
      · simp
    have HTY : Hid (tly l.length (keepL M) = ⟨l.length, od, F.getD 0 0, F.getD (F.length - 1) 0, fdiv (fsum F) (fint F.length)⟩) := Lib.hid (by rw [HF.out]; unfold tly; rw [if_neg hF0, HOD.out])
    have HF0 := Lib.hid hF0
    have t0 : ((F.length : Int) == 0) = false := beq_eq_false_iff_ne.2 (by omega)
    clear hF0
    go_upto_if 24 with (fail)
    obtain ⟨W3, hW3⟩ : ∃ W3, W3 = w2.alloc (.cells #[.int .i64 l.length, .int .i64 od, .float .f64 9218868437227405312, .float .f64 18442240474082181120, .float .f64 9221120237041090561] 34) := ⟨_, rfl⟩
    have hB3 : Below w2.heap.size w2 W3 := by rw [hW3]; exact (Below.refl _ _).alloc (Nat.le_refl _) _
    have ht3 : W3.heap[w2.heap.size]? = some (.cells #[.int .i64 l.length, .int .i64 od, .float .f64 9218868437227405312, .float .f64 18442240474082181120, .float .f64 9221120237041090561] 34) := by rw [hW3]; exact blk_new w2 _
    have hr3 := blk_below HRR.out hB3
    have hR3 := HR2.out.below hB3
    have hne : w.heap.size ≠ w2.heap.size := by have := blk_lt HRR.out; omega
    have hgt : g ≠ w2.heap.size := by have := blk_lt HR2.out; omega
    have hltg : w.heap.size < w2.heap.size := blk_lt HRR.out
    have HLT := Lib.hid hltg
    have HT3 := Lib.hid ht3
    have HR3 := Lib.hid hr3
    have HRO := Lib.hid hR3
    have HB3 := Lib.hid (HB2.out.trans (hB3.mono HB2.out.size))
    have HNE := Lib.hid (And.intro hne hgt)
    rw [← hW3]
    clear hW3 hB3 ht3 hr3 hR3 hne hgt hltg HRR HR2 HB2
    generalize w2.heap.size = gt at *
    go_wp2_with fail
    go_loopw [5, 28] (fun sv iv wr => W3 = wr ∧ ∃ k : Nat, k ≤ F.length ∧ sv = .float .f64 (fsum (F.take k)) ∧ iv = .int .i64 k) (fun _ iv _ => F.length - (RowKit.intOf iv).toNat)
    case atStart => exact ⟨rfl, 0, Nat.zero_le _, rfl, rfl⟩
    case round =>
      obtain ⟨rfl, k, hk, rfl, rfl⟩ := hrel
      by_cases hlt : k < F.length
      · have i1 : (k : Int) < F.length := by omega
        have i2 : (0 : Int) ≤ (k : Int) := by omega
        have wk : IntKind.i64.wrap ((k : Int) + 1) = (k : Int) + 1 := IntWalk.i64_in _ (by omega)
        have ck := HRO.out.cell k hlt
        have hfm : ∀ x ∈ F.take k, oddB x = false := fun x hx => HFL.out.2.1 x (List.mem_of_mem_take hx)
        have hxk : oddB (F.getD k 0) = false := HFL.out.2.1 _ (by rw [List.getD_eq_getElem?_getD, List.getElem?_eq_getElem hlt]; exact List.getElem_mem hlt)
        have ha := run_fadd _ _ (fsum_ok _ hfm).1 hxk
        rw [← fsum_take F k hlt] at ha
        generalize F.getD k 0 = x at ck ha
        generalize hs0 : fsum (F.take k) = s0 at ha
        have HS0 := Lib.hid hs0
        generalize hs1 : fsum (F.take (k + 1)) = s1 at ha
        have HS1 := Lib.hid hs1
        clear hfm hxk hs0 hs1
        go_wp2_with fail
        go_roundw
        case rel => exact ⟨by trivial, k + 1, by omega, by rw [HS1.out], by go_num⟩
        case measure => simp [RowKit.intOf] <;> omega
      · have hke : k = F.length := by omega
        subst hke
        rw [List.take_length]
        have t2 : decide ((F.length : Int) < (F.length : Int)) = false := decide_eq_false (by omega)
        have f2 := blk_frozen HT3.out 2
        have f3 := blk_frozen HT3.out 3
        have f4 := blk_frozen HT3.out 4
        have t2 : W3.cell? ⟨gt, 2, none⟩ = some (.float .f64 9218868437227405312) := (blk_cell HT3.out 2).trans rfl
        have t3 : W3.cell? ⟨gt, 3, none⟩ = some (.float .f64 18442240474082181120) := (blk_cell HT3.out 3).trans rfl
        have t4 : W3.cell? ⟨gt, 4, none⟩ = some (.float .f64 9221120237041090561) := (blk_cell HT3.out 4).trans rfl
        have n1 : ¬ gt = g := fun e => HNE.out.2 e.symm
        have n2 : ¬ g = gt := HNE.out.2
        have c0 := HRO.out.cell 0 (by omega)
        have c1 := HRO.out.cell (F.length - 1) (by omega)
        obtain ⟨lm, hlm⟩ : ∃ lm : Nat, F.length - 1 = lm := ⟨_, rfl⟩
        rw [hlm] at c1
        have e2 : (F.length : Int) - 1 = (lm : Int) := by omega
        have i1 : (lm : Int) < F.length := by omega
        have i2 : (0 : Int) ≤ (lm : Int) := by omega
        have i3 : (0 : Int) < F.length := by omega
        have wlm : IntKind.i64.wrap (lm : Int) = (lm : Int) := IntWalk.i64_in _ (by omega)
        have HLM := Lib.hid hlm
        have hint := run_fint F.length
        have hdv := run_fdiv (fsum F) F.length (fsum_ok F HFL.out.2.1).1 hF1 (by omega)
        have HW : Hid (∀ u u' u'', (((W3.drew.setCell ⟨gt, 2, none⟩ u).setCell ⟨gt, 3, none⟩ u').setCell ⟨gt, 4, none⟩ u'').heap[gt]? = some (.cells #[.int .i64 l.length, .int .i64 od, u, u', u''] 34 (0, 0))) := Lib.hid fun u u' u'' => blk_put (blk_put (blk_put (w := W3.drew) HT3.out 2 u rfl) 3 u' rfl) 4 u'' rfl
        rw [HLM.out] at HTY
        generalize F.getD 0 0 = x0 at c0 HTY
        generalize F.getD lm 0 = x1 at c1 HTY
        generalize fsum F = s0 at hdv HTY ⊢
        generalize fint F.length = fn at hint hdv HTY
        generalize fdiv s0 fn = mean at hdv HTY
        clear hlm
        go_wp2_with fail
        go_region_with (fail)
        all_goals
          clear t2 t3 t4 n1 n2 f2 f3 f4 c0 c1 hint hdv
          obtain ⟨Wf, hWf⟩ : ∃ Wf, Wf = (((W3.drew.setCell ⟨gt, 2, none⟩ (.float .f64 x0)).setCell ⟨gt, 3, none⟩ (.float .f64 x1)).setCell ⟨gt, 4, none⟩ (.float .f64 mean)) := ⟨_, rfl⟩
          change Exit.then _ _ _ _ (((W3.drew.setCell ⟨gt, 2, none⟩ (.float .f64 x0)).setCell ⟨gt, 3, none⟩ (.float .f64 x1)).setCell ⟨gt, 4, none⟩ (.float .f64 mean))
          rw [← hWf]
          have hg := HW.out (.float .f64 x0) (.float .f64 x1) (.float .f64 mean)
          rw [← hWf] at hg
          have hr : Wf.heap[w.heap.size]? = some (.cells #[.int .i64 0, .int .i64 0, .float .f64 0, .float .f64 0, .float .f64 0] 34 (0, 0)) := by
            rw [hWf, Below.heap_setCell _ _ _ _ HNE.out.1, Below.heap_setCell _ _ _ _ HNE.out.1, Below.heap_setCell _ _ _ _ HNE.out.1]
            exact HR3.out
          have hB : Below w.heap.size w Wf := by
            rw [hWf]
            exact (((HB3.out.drew).setCell (p := ⟨gt, 2, none⟩) (Nat.le_of_lt HLT.out) _).setCell (p := ⟨gt, 3, none⟩) (Nat.le_of_lt HLT.out) _).setCell (p := ⟨gt, 4, none⟩) (Nat.le_of_lt HLT.out) _
          clear hWf
          have g0 : Wf.cell? ⟨gt, 0, none⟩ = some (.int .i64 l.length) := (blk_cell hg 0).trans rfl
          have g1 : Wf.cell? ⟨gt, 1, none⟩ = some (.int .i64 od) := (blk_cell hg 1).trans rfl
          have g2 : Wf.cell? ⟨gt, 2, none⟩ = some (.float .f64 x0) := (blk_cell hg 2).trans rfl
          have g3 : Wf.cell? ⟨gt, 3, none⟩ = some (.float .f64 x1) := (blk_cell hg 3).trans rfl
          have g4 : Wf.cell? ⟨gt, 4, none⟩ = some (.float .f64 mean) := (blk_cell hg 4).trans rfl
          have r0 : Wf.cell? ⟨w.heap.size, 0, none⟩ = some (.int .i64 0) := (blk_cell hr 0).trans rfl
          have r1 : Wf.cell? ⟨w.heap.size, 1, none⟩ = some (.int .i64 0) := (blk_cell hr 1).trans rfl
          have r2 : Wf.cell? ⟨w.heap.size, 2, none⟩ = some (.float .f64 0) := (blk_cell hr 2).trans rfl
          have r3 : Wf.cell? ⟨w.heap.size, 3, none⟩ = some (.float .f64 0) := (blk_cell hr 3).trans rfl
          have r4 : Wf.cell? ⟨w.heap.size, 4, none⟩ = some (.float .f64 0) := (blk_cell hr 4).trans rfl
          have f0 := blk_frozen hr 0
          have f1 := blk_frozen hr 1
          have f2 := blk_frozen hr 2
          have f3 := blk_frozen hr 3
          have f4 := blk_frozen hr 4
          have hlt := blk_lt hr
          have HBf := Lib.hid hB
          have HRB := Lib.hid hr
          clear hg hr hB
          go_wp2_with fail
          obtain ⟨Wz, hWz⟩ : ∃ Wz, Wz = (((((Wf.setCell ⟨w.heap.size, 0, none⟩ (.int .i64 l.length)).setCell ⟨w.heap.size, 1, none⟩ (.int .i64 od)).setCell ⟨w.heap.size, 2, none⟩ (.float .f64 x0)).setCell ⟨w.heap.size, 3, none⟩ (.float .f64 x1)).setCell ⟨w.heap.size, 4, none⟩ (.float .f64 mean)) := ⟨_, rfl⟩
          have hz : Wz.heap[w.heap.size]? = some (.cells #[.int .i64 l.length, .int .i64 od, .float .f64 x0, .float .f64 x1, .float .f64 mean] 34 (0, 0)) := by
            rw [hWz]
            exact blk_put (blk_put (blk_put (blk_put (blk_put HRB.out 0 _ rfl) 1 _ rfl) 2 _ rfl) 3 _ rfl) 4 _ rfl
          have hbz : Below w.heap.size w Wz := by
            rw [hWz]
            exact ((((HBf.out.setCell (p := ⟨w.heap.size, 0, none⟩) (Nat.le_refl _) _).setCell (p := ⟨w.heap.size, 1, none⟩) (Nat.le_refl _) _).setCell (p := ⟨w.heap.size, 2, none⟩) (Nat.le_refl _) _).setCell (p := ⟨w.heap.size, 3, none⟩) (Nat.le_refl _) _).setCell (p := ⟨w.heap.size, 4, none⟩) (Nat.le_refl _) _
          with_reducible change bodyPost _ _ _ _ _ (((((Wf.setCell ⟨w.heap.size, 0, none⟩ (.int .i64 l.length)).setCell ⟨w.heap.size, 1, none⟩ (.int .i64 od)).setCell ⟨w.heap.size, 2, none⟩ (.float .f64 x0)).setCell ⟨w.heap.size, 3, none⟩ (.float .f64 x1)).setCell ⟨w.heap.size, 4, none⟩ (.float .f64 mean))
          rw [← hWz]
          clear hWz r0 r1 r2 r3 r4 f0 f1 f2 f3 f4 g0 g1 g2 g3 g4 hlt
          have r0 : Wz.cell? ⟨w.heap.size, 0, none⟩ = some (.int .i64 l.length) := (blk_cell hz 0).trans rfl
          have r1 : Wz.cell? ⟨w.heap.size, 1, none⟩ = some (.int .i64 od) := (blk_cell hz 1).trans rfl
          have r2 : Wz.cell? ⟨w.heap.size, 2, none⟩ = some (.float .f64 x0) := (blk_cell hz 2).trans rfl
          have r3 : Wz.cell? ⟨w.heap.size, 3, none⟩ = some (.float .f64 x1) := (blk_cell hz 3).trans rfl
          have r4 : Wz.cell? ⟨w.heap.size, 4, none⟩ = some (.float .f64 mean) := (blk_cell hz 4).trans rfl
          have HFIN : Hid (OfOut l w (.returned (.agg #[.int .i64 l.length, .int .i64 od, .float .f64 x0, .float .f64 x1, .float .f64 mean])) Wz) := Lib.hid ⟨M, by rw [HTY.out]; rfl, HMM.out.1, HMM.out.2, hbz⟩
          clear hz hbz
          refine bodyPost_ret (v := .agg #[.int .i64 l.length, .int .i64 od, .float .f64 x0, .float .f64 x1, .float .f64 mean]) ?_ rfl HFIN.out
          simp [results, Tryz.results10, go_sem, r0, r1, r2, r3, r4]
end Go.Proofs.YtedllapajgcfeaaGreatDoor
