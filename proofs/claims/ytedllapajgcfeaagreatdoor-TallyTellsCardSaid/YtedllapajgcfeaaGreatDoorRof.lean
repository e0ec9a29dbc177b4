/-
  The document's tally of any at most a thousand numbers: walked.
-/
import Derived.Test.YtedllapajgcfeaaGreatDoorTlp
namespace Go.Proofs.YtedllapajgcfeaaGreatDoor
set_option linter.unusedVariables false
set_option linter.unusedSimpArgs false
open Go.RowKit Go.Proofs.YtedllapajgcfeaaGreatDoorW.PrintWords

theorem rplain_any (x : Nat) (h : x < 18446744073709551616) (w : World) : Calls Tryz.prog 30 #[.float .f64 x] w fun e w' => e = .returned (.bool (!oddB x)) ∧ w = w' := by
  have b1 := u64_ex x h
  have hb : ((Fl.ex x : Int) != 2047) = !oddB x := by
    rw [← plain_ex x]
    by_cases e : Fl.ex x = 2047
    · rw [e]; rfl
    · rw [bne_iff_ne.2 e, bne_iff_ne.2 (by omega)]
  have s0 : (0 : Int) ≤ (x : Int) := by omega
  generalize Fl.ex x = E at *
  generalize (!oddB x) = b at *
  clear h
  go_enter Tryz.func30, Tryz.ntmps30
  go_wp2_with fail
  go_ret
  exact ⟨rfl, rfl⟩
def RofOut (l : List Nat) (w : World) (e : Ending) (w' : World) : Prop := e = .returned (.agg #[.int .i64 (tal l).many, .int .i64 (tal l).odd, .float .f64 (tal l).least, .float .f64 (tal l).greatest, .float .f64 (tal l).mean]) ∧ Below w.heap.size w w'
/-- How the document's loop stands: the tally in memory, what was sorted, the result's own block. -/
structure Rf (w : World) (gt : Nat) (l M : List Nat) (v : Value) (F : List Nat) (k : Nat) (z : World) : Prop where
  ty : z.heap[gt]? = some (.cells #[.int .i64 l.length, .int .i64 ((k - F.length : Nat) : Int), .float .f64 (lst F), .float .f64 (grt F), .float .f64 9221120237041090561] 36 (0, 0))
  row : z.ownsRow w.heap.size 22 1 v l.length (fl M)
  res : z.heap[w.heap.size]? = some (.cells #[.int .i64 0, .int .i64 0, .float .f64 0, .float .f64 0, .float .f64 0] 36 (0, 0))
  bl : Below w.heap.size w z
  ne : w.heap.size < gt
theorem Rf.put {w : World} {gt : Nat} {l M F : List Nat} {v : Value} {k : Nat} {z : World} (h : Rf w gt l M v F k z) (i : Nat) (u : Value) :
    (z.setCell ⟨gt, i, none⟩ u).ownsRow w.heap.size 22 1 v l.length (fl M) ∧ (z.setCell ⟨gt, i, none⟩ u).heap[w.heap.size]? = some (.cells #[.int .i64 0, .int .i64 0, .float .f64 0, .float .f64 0, .float .f64 0] 36 (0, 0)) ∧ Below w.heap.size w (z.setCell ⟨gt, i, none⟩ u) :=
  ⟨own_setCell h.row (p := ⟨gt, i, none⟩) (own_ne h.row h.ty (by decide)) u, blk_far h.res (p := ⟨gt, i, none⟩) (Nat.ne_of_lt h.ne) u, h.bl.setCell (p := ⟨gt, i, none⟩) (Nat.le_of_lt h.ne) u⟩
theorem row_cell {w : World} {base n : Nat} {A : Option Addr} {c k : Nat} {M : List Nat} (h : w.ownsRow base 22 1 (.slice A n c) n (fl M)) (hk : k < n) : ∃ ad, A = some ad ∧ w.cell? (ad.add k) = some (.float .f64 (M.getD k 0)) := by
  obtain ⟨A2, c2, e, hR⟩ := own_reads_of (enc := Value.float .f64) (d := 0) h
  injection e with e1 _ _
  subst e1
  obtain ⟨ad, e, hc⟩ := hR.2.2 (by omega)
  exact ⟨ad, e, hc k hk⟩
set_option maxRecDepth 100000 in
set_option maxHeartbeats 12800000 in
theorem rof_any (A : Option Addr) (c : Nat) (l : List Nat) (hl : l.length ≤ 1000) (h64 : Fin64 l) (w : World) (hA : ArgF w A l) :
    Calls Tryz.prog 11 #[.slice A l.length c] w (RofOut l w) := by
  have HA := Lib.hid hA
  clear hA
  go_enter Tryz.func11, Tryz.ntmps11
  go_wp2_with fail
  refine (inf_up _).mono ?_
  rintro e w3 ⟨rfl, rfl⟩
  go_wp2_with fail
  refine (inf_down _).mono ?_
  rintro e w3 ⟨rfl, rfl⟩
  go_wp2_with fail
  refine (nan_any _).mono ?_
  rintro e w3 ⟨rfl, rfl⟩
  go_wp2_with fail
  obtain ⟨W1, hW1⟩ : ∃ W1, W1 = (w.alloc (.cells #[.int .i64 0, .int .i64 0, .float .f64 0, .float .f64 0, .float .f64 0] 36)).alloc (.cells #[.int .i64 l.length, .int .i64 0, .float .f64 9218868437227405312, .float .f64 18442240474082181120, .float .f64 9221120237041090561] 36) := ⟨_, rfl⟩
  change Calls _ _ _ ((w.alloc (.cells #[.int .i64 0, .int .i64 0, .float .f64 0, .float .f64 0, .float .f64 0] 36)).alloc (.cells #[.int .i64 l.length, .int .i64 0, .float .f64 9218868437227405312, .float .f64 18442240474082181120, .float .f64 9221120237041090561] 36)) _
  have hB0 : Below w.heap.size w W1 := by rw [hW1]; exact ((Below.refl w.heap.size w).alloc (Nat.le_refl _) _).alloc (by simp) _
  have hr0 : W1.heap[w.heap.size]? = some (.cells #[.int .i64 0, .int .i64 0, .float .f64 0, .float .f64 0, .float .f64 0] 36) := by rw [hW1]; exact blk_alloc (blk_new w _) _
  have ht0 : W1.heap[w.heap.size + 1]? = some (.cells #[.int .i64 l.length, .int .i64 0, .float .f64 9218868437227405312, .float .f64 18442240474082181120, .float .f64 9221120237041090561] 36) := by
    rw [hW1]
    have := blk_new (w.alloc (.cells #[.int .i64 0, .int .i64 0, .float .f64 0, .float .f64 0, .float .f64 0] 36)) (.cells #[.int .i64 l.length, .int .i64 0, .float .f64 9218868437227405312, .float .f64 18442240474082181120, .float .f64 9221120237041090561] 36)
    simpa using this
  rw [← hW1]
  clear hW1
  refine (rsort_any A c l hl h64 W1 (HA.out.below hB0)).mono ?_
  rintro e w4 ⟨v, M, rfl, hO, hp, hs, B4⟩
  obtain ⟨A2, c2, rfl, hR2⟩ := own_reads_of (enc := Value.float .f64) (d := 0) hO
  have HF : Hid (keepL M = keepL (canS l) ∧ Fin64 M ∧ M.length = l.length) := Lib.hid ⟨keep_raw h64 hp hs, h64.perm hp, hp.length_eq⟩
  have HRF : Hid (Rf w (w.heap.size + 1) l M (.slice A2 l.length c2) [] 0 w4) := Lib.hid ⟨blk_below ht0 B4, own_weaken hO hB0.size, blk_below hr0 B4, bthen hB0 B4, Nat.lt_succ_self _⟩
  clear hO hp hs B4 hR2 ht0 hr0 hB0
  obtain ⟨gt, hgt⟩ : ∃ gt, w.heap.size + 1 = gt := ⟨_, rfl⟩
  rw [hgt] at HRF
  simp only [hgt]
  have HGT := Lib.hid hgt
  clear hgt
  go_wp2_with fail
  go_loopw [5, 6, 7] (fun nv sv iv wr => ∃ (k : Nat) (F : List Nat), iv = .int .i64 k ∧ nv = .int .i64 F.length ∧ sv = .float .f64 (fsum F) ∧ k ≤ l.length ∧ Hid (F = keepL (M.take k) ∧ Rf w gt l M (.slice A2 l.length c2) F k wr)) (fun _ _ iv _ => l.length - (RowKit.intOf iv).toNat)
  case atStart => exact ⟨0, [], rfl, rfl, rfl, Nat.zero_le _, Lib.hid ⟨rfl, HRF.out⟩⟩
  case round =>
    clear HRF
    obtain ⟨k, F, rfl, rfl, rfl, hk, HR⟩ := hrel
    have hFk : F.length ≤ k := by rw [HR.out.1]; exact Nat.le_trans (keep_le _) (by rw [List.length_take]; omega)
    by_cases hlt : k < l.length
    · have i1 : (k : Int) < l.length := by omega
      have i2 : (0 : Int) ≤ (k : Int) := by omega
      have wk : IntKind.i64.wrap ((k : Int) + 1) = (k : Int) + 1 := IntWalk.i64_in _ (by omega)
      obtain ⟨ad, rfl, ck⟩ := row_cell HR.out.2.row hlt
      have hxl : M.getD k 0 < 18446744073709551616 := HF.out.2.1.getD k
      have HKT := Lib.hid (keep_take M k (by rw [HF.out.2.2]; exact hlt))
      have HFO : Hid (∀ y ∈ F, oddB y = false) := Lib.hid (by rw [HR.out.1]; exact keep_odd _)
      have hp2 : ∀ u, (wr.setCell ⟨gt, 2, none⟩ u).cell? (ad.add k) = some (.float .f64 (M.getD k 0)) := fun u => by
        obtain ⟨ad', e, h⟩ := row_cell (HR.out.2.put 2 u).1 hlt
        injection e with e; subst e; exact h
      have hp3 : ∀ u, (wr.setCell ⟨gt, 3, none⟩ u).cell? (ad.add k) = some (.float .f64 (M.getD k 0)) := fun u => by
        obtain ⟨ad', e, h⟩ := row_cell (HR.out.2.put 3 u).1 hlt
        injection e with e; subst e; exact h
      have HP := Lib.hid (rplain_any (M.getD k 0) hxl)
      have t0 : wr.cell? ⟨gt, 1, none⟩ = some (.int .i64 ((k - F.length : Nat) : Int)) := (blk_cell HR.out.2.ty 1).trans rfl
      have t2 : wr.cell? ⟨gt, 2, none⟩ = some (.float .f64 (lst F)) := (blk_cell HR.out.2.ty 2).trans rfl
      have t3 : wr.cell? ⟨gt, 3, none⟩ = some (.float .f64 (grt F)) := (blk_cell HR.out.2.ty 3).trans rfl
      have f1 := blk_frozen HR.out.2.ty 1
      have f2 := blk_frozen HR.out.2.ty 2
      have f3 := blk_frozen HR.out.2.ty 3
      generalize M.getD k 0 = x at *
      cases ho : oddB x
      · rw [ho] at HP HKT
        rw [if_neg (by decide)] at HKT
        have ha := run_fadd (fsum F) x (fsum_ok F HFO.out).1 ho
        have wn : IntKind.i64.wrap ((F.length : Int) + 1) = (F.length : Int) + 1 := IntWalk.i64_in _ (by omega)
        have hF1 : Hid (F ++ [x] = keepL (M.take (k + 1))) := Lib.hid (by rw [HKT.out, ← HR.out.1])
        by_cases h0 : F.length = 0
        · have tz : ((F.length : Int) == 0) = true := by rw [h0]; rfl
          have HNX : Hid (Rf w gt l M (.slice (some ad) l.length c2) (F ++ [x]) (k + 1) ((wr.setCell ⟨gt, 2, none⟩ (.float .f64 x)).setCell ⟨gt, 3, none⟩ (.float .f64 x))) := Lib.hid (by
            obtain ⟨a1, a2, a3⟩ := HR.out.2.put 2 (.float .f64 x)
            have b1 := blk_put HR.out.2.ty 2 (.float .f64 x) rfl
            have b2 := blk_put b1 3 (.float .f64 x) rfl
            refine ⟨?_, own_setCell a1 (p := ⟨gt, 3, none⟩) (own_ne a1 b1 (by decide)) _, blk_far a2 (p := ⟨gt, 3, none⟩) (Nat.ne_of_lt HR.out.2.ne) _, a3.setCell (p := ⟨gt, 3, none⟩) (Nat.le_of_lt HR.out.2.ne) _, HR.out.2.ne⟩
            rw [lst_add, if_pos h0, grt_add, show k + 1 - (F ++ [x]).length = k - F.length by simp <;> omega]
            exact b2)
          have g3 := blk_frozen (blk_put HR.out.2.ty 2 (.float .f64 x) rfl) 3
          have c3 : (wr.setCell ⟨gt, 2, none⟩ (.float .f64 x)).cell? ⟨gt, 3, none⟩ = some (.float .f64 (grt F)) := (blk_cell (blk_put HR.out.2.ty 2 (.float .f64 x) rfl) 3).trans rfl
          have c33 : ((wr.setCell ⟨gt, 2, none⟩ (.float .f64 x)).setCell ⟨gt, 3, none⟩ (.float .f64 x)).cell? (ad.add k) = some (.float .f64 x) := by
            obtain ⟨ad', e, h⟩ := row_cell HNX.out.row hlt
            injection e with e; subst e
            rw [h]
            have := hp2 (.float .f64 x)
            have h2 := row_cell (HR.out.2.put 2 (.float .f64 x)).1 hlt
            obtain ⟨ad', e, h3⟩ := h2
            injection e with e; subst e
            rw [this] at h3
            exact h3.symm
          have HFS := Lib.hid (fsum_add F x)
          clear ho HR HKT
          generalize fsum F = s0 at *
          generalize fadd s0 x = s1 at *
          go_wp2_with fail
          refine (HP.out _).mono ?_
          rintro e w5 ⟨rfl, rfl⟩
          go_wp2_with fail
          go_roundw
          case rel => exact ⟨k + 1, F ++ [x], by go_num, by rw [List.length_append]; go_num, by rw [HFS.out], by omega, Lib.hid ⟨hF1.out, HNX.out⟩⟩
          case measure => simp [RowKit.intOf] <;> omega
        · have tz : ((F.length : Int) == 0) = false := beq_eq_false_iff_ne.2 (by omega)
          have HNX : Hid (Rf w gt l M (.slice (some ad) l.length c2) (F ++ [x]) (k + 1) (wr.setCell ⟨gt, 3, none⟩ (.float .f64 x))) := Lib.hid (by
            obtain ⟨a1, a2, a3⟩ := HR.out.2.put 3 (.float .f64 x)
            have b2 := blk_put HR.out.2.ty 3 (.float .f64 x) rfl
            refine ⟨?_, a1, a2, a3, HR.out.2.ne⟩
            rw [lst_add, if_neg h0, grt_add, show k + 1 - (F ++ [x]).length = k - F.length by simp <;> omega]
            exact b2)
          have HFS := Lib.hid (fsum_add F x)
          clear ho HR HKT
          generalize fsum F = s0 at *
          generalize fadd s0 x = s1 at *
          go_wp2_with fail
          refine (HP.out _).mono ?_
          rintro e w5 ⟨rfl, rfl⟩
          go_wp2_with fail
          go_roundw
          case rel => exact ⟨k + 1, F ++ [x], by go_num, by rw [List.length_append]; go_num, by rw [HFS.out], by omega, Lib.hid ⟨hF1.out, HNX.out⟩⟩
          case measure => simp [RowKit.intOf] <;> omega
      · rw [ho] at HP HKT
        rw [if_pos rfl, List.append_nil] at HKT
        obtain ⟨d, hd⟩ : ∃ d, k - F.length = d := ⟨_, rfl⟩
        have wd : IntKind.i64.wrap ((d : Int) + 1) = (d : Int) + 1 := IntWalk.i64_in _ (by omega)
        have HNX : Hid (Rf w gt l M (.slice (some ad) l.length c2) F (k + 1) (wr.setCell ⟨gt, 1, none⟩ (.int .i64 ((d : Int) + 1)))) := Lib.hid (by
          obtain ⟨a1, a2, a3⟩ := HR.out.2.put 1 (.int .i64 ((d : Int) + 1))
          have b2 := blk_put HR.out.2.ty 1 (.int .i64 ((d : Int) + 1)) rfl
          refine ⟨?_, a1, a2, a3, HR.out.2.ne⟩
          have e : ((k + 1 - F.length : Nat) : Int) = (d : Int) + 1 := by omega
          rw [e]
          exact b2)
        have hF1 : Hid (F = keepL (M.take (k + 1))) := Lib.hid (by rw [HKT.out, ← HR.out.1])
        rw [hd] at t0
        clear ho HR HKT hd
        go_wp2_with fail
        refine (HP.out _).mono ?_
        rintro e w5 ⟨rfl, rfl⟩
        go_wp2_with fail
        go_roundw
        case rel => exact ⟨k + 1, F, by go_num, rfl, rfl, by omega, Lib.hid ⟨hF1.out, HNX.out⟩⟩
        case measure => simp [RowKit.intOf] <;> omega
    · have hke : k = l.length := by omega
      subst hke
      have hFF : F = keepL (canS l) := by
        rw [← HF.out.1, HR.out.1]
        congr 1
        rw [List.take_of_length_le (by rw [HF.out.2.2]; exact Nat.le_refl _)]
      have t3 : decide ((l.length : Int) < (l.length : Int)) = false := decide_eq_false (by omega)
      by_cases h0 : F.length = 0
      · have tz : decide (0 < F.length) = false := decide_eq_false (by omega)
        have HTY : Hid (tal l = ⟨l.length, l.length, lst F, grt F, 9221120237041090561⟩) := Lib.hid (by unfold tal; rw [← hFF]; exact (tly_of _ F h0).1)
        have hodl : l.length - F.length = l.length := by omega
        obtain ⟨Wf, hWf⟩ : ∃ Wf : World, Wf = wr := ⟨_, rfl⟩
        subst hWf
        have hg := HR.out.2.ty
        rw [hodl] at hg
        have hr := HR.out.2.res
        have hB := HR.out.2.bl
        generalize lst F = x0 at hg HTY
        generalize grt F = x1 at hg HTY
        generalize fsum F = s0
        clear HR hFF h0 hodl
        have g0 : Wf.cell? ⟨gt, 0, none⟩ = some (.int .i64 l.length) := (blk_cell hg 0).trans rfl
        have g1 : Wf.cell? ⟨gt, 1, none⟩ = some (.int .i64 l.length) := (blk_cell hg 1).trans rfl
        have g2 : Wf.cell? ⟨gt, 2, none⟩ = some (.float .f64 x0) := (blk_cell hg 2).trans rfl
        have g3 : Wf.cell? ⟨gt, 3, none⟩ = some (.float .f64 x1) := (blk_cell hg 3).trans rfl
        have g4 : Wf.cell? ⟨gt, 4, none⟩ = some (.float .f64 9221120237041090561) := (blk_cell hg 4).trans rfl
        have r0 : Wf.cell? ⟨w.heap.size, 0, none⟩ = some (.int .i64 0) := (blk_cell hr 0).trans rfl
        have r1 : Wf.cell? ⟨w.heap.size, 1, none⟩ = some (.int .i64 0) := (blk_cell hr 1).trans rfl
        have r2 : Wf.cell? ⟨w.heap.size, 2, none⟩ = some (.float .f64 0) := (blk_cell hr 2).trans rfl
        have r3 : Wf.cell? ⟨w.heap.size, 3, none⟩ = some (.float .f64 0) := (blk_cell hr 3).trans rfl
        have r4 : Wf.cell? ⟨w.heap.size, 4, none⟩ = some (.float .f64 0) := (blk_cell hr 4).trans rfl
        have f0 := blk_frozen hr 0
        have f1 := blk_frozen hr 1
        have f2 := blk_frozen hr 2
        have f3 := blk_frozen hr 3
        have f4 := blk_frozen hr 4
        have hlt := blk_lt hr
        have HBf := Lib.hid hB
        have HRB := Lib.hid hr
        clear hg hr hB
        go_wp2_with fail
        obtain ⟨Wz, hWz⟩ : ∃ Wz, Wz = (((((Wf.setCell ⟨w.heap.size, 0, none⟩ (.int .i64 l.length)).setCell ⟨w.heap.size, 1, none⟩ (.int .i64 l.length)).setCell ⟨w.heap.size, 2, none⟩ (.float .f64 x0)).setCell ⟨w.heap.size, 3, none⟩ (.float .f64 x1)).setCell ⟨w.heap.size, 4, none⟩ (.float .f64 9221120237041090561)) := ⟨_, rfl⟩
        have hz : Wz.heap[w.heap.size]? = some (.cells #[.int .i64 l.length, .int .i64 l.length, .float .f64 x0, .float .f64 x1, .float .f64 9221120237041090561] 36 (0, 0)) := by
          rw [hWz]
          exact blk_put (blk_put (blk_put (blk_put (blk_put HRB.out 0 _ rfl) 1 _ rfl) 2 _ rfl) 3 _ rfl) 4 _ rfl
        have hbz : Below w.heap.size w Wz := by
          rw [hWz]
          exact ((((HBf.out.setCell (p := ⟨w.heap.size, 0, none⟩) (Nat.le_refl _) _).setCell (p := ⟨w.heap.size, 1, none⟩) (Nat.le_refl _) _).setCell (p := ⟨w.heap.size, 2, none⟩) (Nat.le_refl _) _).setCell (p := ⟨w.heap.size, 3, none⟩) (Nat.le_refl _) _).setCell (p := ⟨w.heap.size, 4, none⟩) (Nat.le_refl _) _
        with_reducible change bodyPost _ _ _ _ _ (((((Wf.setCell ⟨w.heap.size, 0, none⟩ (.int .i64 l.length)).setCell ⟨w.heap.size, 1, none⟩ (.int .i64 l.length)).setCell ⟨w.heap.size, 2, none⟩ (.float .f64 x0)).setCell ⟨w.heap.size, 3, none⟩ (.float .f64 x1)).setCell ⟨w.heap.size, 4, none⟩ (.float .f64 9221120237041090561))
        rw [← hWz]
        clear hWz r0 r1 r2 r3 r4 f0 f1 f2 f3 f4 g0 g1 g2 g3 g4 hlt
        have r0 : Wz.cell? ⟨w.heap.size, 0, none⟩ = some (.int .i64 l.length) := (blk_cell hz 0).trans rfl
        have r1 : Wz.cell? ⟨w.heap.size, 1, none⟩ = some (.int .i64 l.length) := (blk_cell hz 1).trans rfl
        have r2 : Wz.cell? ⟨w.heap.size, 2, none⟩ = some (.float .f64 x0) := (blk_cell hz 2).trans rfl
        have r3 : Wz.cell? ⟨w.heap.size, 3, none⟩ = some (.float .f64 x1) := (blk_cell hz 3).trans rfl
        have r4 : Wz.cell? ⟨w.heap.size, 4, none⟩ = some (.float .f64 9221120237041090561) := (blk_cell hz 4).trans rfl
        have HFIN : Hid (RofOut l w (.returned (.agg #[.int .i64 l.length, .int .i64 l.length, .float .f64 x0, .float .f64 x1, .float .f64 9221120237041090561])) Wz) := Lib.hid ⟨by rw [HTY.out], hbz⟩
        clear hz hbz
        refine bodyPost_ret (v := .agg #[.int .i64 l.length, .int .i64 l.length, .float .f64 x0, .float .f64 x1, .float .f64 9221120237041090561]) ?_ rfl HFIN.out
        simp [results, Tryz.results11, go_sem, r0, r1, r2, r3, r4]
      · have tz : decide (0 < F.length) = true := decide_eq_true (by omega)
        have hfo : ∀ y ∈ F, oddB y = false := by rw [HR.out.1]; exact keep_odd _
        have HTY : Hid (tal l = ⟨l.length, l.length - F.length, lst F, grt F, fdiv (fsum F) (fint F.length)⟩) := Lib.hid (by unfold tal; rw [← hFF]; exact tly_some _ F (by omega))
        have hint := run_fint F.length
        have hdv := run_fdiv (fsum F) F.length (fsum_ok F hfo).1 (by omega) (by omega)
        obtain ⟨od, hod⟩ : ∃ od, l.length - F.length = od := ⟨_, rfl⟩
        obtain ⟨mean, hmean⟩ : ∃ mean, fdiv (fsum F) (fint F.length) = mean := ⟨_, rfl⟩
        rw [hmean, hod] at HTY
        rw [hmean] at hdv
        have hty := HR.out.2.ty
        rw [hod] at hty
        obtain ⟨a1, a2, a3⟩ := HR.out.2.put 4 (.float .f64 mean)
        have hg := blk_put hty 4 (.float .f64 mean) rfl
        have hr := a2
        have hB := a3
        have t4 : wr.cell? ⟨gt, 4, none⟩ = some (.float .f64 9221120237041090561) := (blk_cell hty 4).trans rfl
        have f4 := blk_frozen hty 4
        have HG := Lib.hid (And.intro hg (And.intro hr hB))
        generalize lst F = x0 at hg HTY HG
        generalize grt F = x1 at hg HTY HG
        generalize fsum F = s0 at hdv
        generalize fint F.length = fn at hint hdv
        clear HR hFF h0 a1 a2 a3 hfo hg hr hB hmean hod hty
        go_upto_region 17 with (fail)
        clear t4 f4 hint hdv
        obtain ⟨Wf, hWf⟩ : ∃ Wf : World, Wf = wr.setCell ⟨gt, 4, none⟩ (.float .f64 mean) := ⟨_, rfl⟩
        change Code.wp _ _ _ _ (wr.setCell ⟨gt, 4, none⟩ (.float .f64 mean))
        rw [← hWf] at HG ⊢
        obtain ⟨hg, hr, hB⟩ := HG.out
        clear HG hWf
        have g0 : Wf.cell? ⟨gt, 0, none⟩ = some (.int .i64 l.length) := (blk_cell hg 0).trans rfl
        have g1 : Wf.cell? ⟨gt, 1, none⟩ = some (.int .i64 od) := (blk_cell hg 1).trans rfl
        have g2 : Wf.cell? ⟨gt, 2, none⟩ = some (.float .f64 x0) := (blk_cell hg 2).trans rfl
        have g3 : Wf.cell? ⟨gt, 3, none⟩ = some (.float .f64 x1) := (blk_cell hg 3).trans rfl
        have g4 : Wf.cell? ⟨gt, 4, none⟩ = some (.float .f64 mean) := (blk_cell hg 4).trans rfl
        have r0 : Wf.cell? ⟨w.heap.size, 0, none⟩ = some (.int .i64 0) := (blk_cell hr 0).trans rfl
        have r1 : Wf.cell? ⟨w.heap.size, 1, none⟩ = some (.int .i64 0) := (blk_cell hr 1).trans rfl
        have r2 : Wf.cell? ⟨w.heap.size, 2, none⟩ = some (.float .f64 0) := (blk_cell hr 2).trans rfl
        have r3 : Wf.cell? ⟨w.heap.size, 3, none⟩ = some (.float .f64 0) := (blk_cell hr 3).trans rfl
        have r4 : Wf.cell? ⟨w.heap.size, 4, none⟩ = some (.float .f64 0) := (blk_cell hr 4).trans rfl
        have f0 := blk_frozen hr 0
        have f1 := blk_frozen hr 1
        have f2 := blk_frozen hr 2
        have f3 := blk_frozen hr 3
        have f4 := blk_frozen hr 4
        have hlt := blk_lt hr
        have HBf := Lib.hid hB
        have HRB := Lib.hid hr
        clear hg hr hB
        go_wp2_with fail
        obtain ⟨Wz, hWz⟩ : ∃ Wz, Wz = (((((Wf.setCell ⟨w.heap.size, 0, none⟩ (.int .i64 l.length)).setCell ⟨w.heap.size, 1, none⟩ (.int .i64 od)).setCell ⟨w.heap.size, 2, none⟩ (.float .f64 x0)).setCell ⟨w.heap.size, 3, none⟩ (.float .f64 x1)).setCell ⟨w.heap.size, 4, none⟩ (.float .f64 mean)) := ⟨_, rfl⟩
        have hz : Wz.heap[w.heap.size]? = some (.cells #[.int .i64 l.length, .int .i64 od, .float .f64 x0, .float .f64 x1, .float .f64 mean] 36 (0, 0)) := by
          rw [hWz]
          exact blk_put (blk_put (blk_put (blk_put (blk_put HRB.out 0 _ rfl) 1 _ rfl) 2 _ rfl) 3 _ rfl) 4 _ rfl
        have hbz : Below w.heap.size w Wz := by
          rw [hWz]
          exact ((((HBf.out.setCell (p := ⟨w.heap.size, 0, none⟩) (Nat.le_refl _) _).setCell (p := ⟨w.heap.size, 1, none⟩) (Nat.le_refl _) _).setCell (p := ⟨w.heap.size, 2, none⟩) (Nat.le_refl _) _).setCell (p := ⟨w.heap.size, 3, none⟩) (Nat.le_refl _) _).setCell (p := ⟨w.heap.size, 4, none⟩) (Nat.le_refl _) _
        with_reducible change bodyPost _ _ _ _ _ (((((Wf.setCell ⟨w.heap.size, 0, none⟩ (.int .i64 l.length)).setCell ⟨w.heap.size, 1, none⟩ (.int .i64 od)).setCell ⟨w.heap.size, 2, none⟩ (.float .f64 x0)).setCell ⟨w.heap.size, 3, none⟩ (.float .f64 x1)).setCell ⟨w.heap.size, 4, none⟩ (.float .f64 mean))
        rw [← hWz]
        clear hWz r0 r1 r2 r3 r4 f0 f1 f2 f3 f4 g0 g1 g2 g3 g4 hlt
        have r0 : Wz.cell? ⟨w.heap.size, 0, none⟩ = some (.int .i64 l.length) := (blk_cell hz 0).trans rfl
        have r1 : Wz.cell? ⟨w.heap.size, 1, none⟩ = some (.int .i64 od) := (blk_cell hz 1).trans rfl
        have r2 : Wz.cell? ⟨w.heap.size, 2, none⟩ = some (.float .f64 x0) := (blk_cell hz 2).trans rfl
        have r3 : Wz.cell? ⟨w.heap.size, 3, none⟩ = some (.float .f64 x1) := (blk_cell hz 3).trans rfl
        have r4 : Wz.cell? ⟨w.heap.size, 4, none⟩ = some (.float .f64 mean) := (blk_cell hz 4).trans rfl
        have HFIN : Hid (RofOut l w (.returned (.agg #[.int .i64 l.length, .int .i64 od, .float .f64 x0, .float .f64 x1, .float .f64 mean])) Wz) := Lib.hid ⟨by rw [HTY.out], hbz⟩
        clear hz hbz
        refine bodyPost_ret (v := .agg #[.int .i64 l.length, .int .i64 od, .float .f64 x0, .float .f64 x1, .float .f64 mean]) ?_ rfl HFIN.out
        simp [results, Tryz.results11, go_sem, r0, r1, r2, r3, r4]
end Go.Proofs.YtedllapajgcfeaaGreatDoor
