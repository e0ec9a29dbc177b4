/-
  The document's Right: walked.
-/
import Derived.Test.YtebkaajnnjfhjaaDoorDown
import Derived.Test.YtebkaajnnjfhjaaDoorFits
import Derived.Test.YtebkaajnnjfhjaaDoorRight
namespace Go.Proofs.YtebkaajnnjfhjaaDoor
set_option linter.unusedVariables false
set_option linter.unusedSimpArgs false
open Go.RowKit Go.Proofs.YtebkaajnnjfhjaaDoorW.PrintWords
open Tr (Nd Pt dnF dnAll zeros)

/-- The counts, whole. -/
def cts (ns : List Nd) (ps : List Pt) : Bool × List Nat := dnAll ns (ns.length + 1) ps (zeros ns.length)
theorem rr_small {ns : List Nd} {ps : List Pt} (h : ps.length = 0 ∨ 20 < ps.length ∨ 600 < ns.length) : Tr.right ns ps = false := by
  rw [← Tr.right_ref ns ps (ns.length + 1) (by omega)]
  unfold Tr.refRight
  rw [if_pos h]
theorem rr_no {ns : List Nd} {ps : List Pt} (h : (cts ns ps).1 = false) : Tr.right ns ps = false := by
  rw [← Tr.right_ref ns ps (ns.length + 1) (by omega)]
  unfold Tr.refRight
  split
  · rfl
  · rw [if_neg]
    unfold cts at h
    rw [h]; simp
theorem rr_eq {ns : List Nd} {ps : List Pt} (g : ¬ (ps.length = 0 ∨ 20 < ps.length ∨ 600 < ns.length)) (h : (cts ns ps).1 = true) : Tr.right ns ps = (List.range ns.length).all fun i => ((cts ns ps).2.getD i 0 == 1) && (match ns[i]? with | some n => Tr.may n | none => true) := by
  rw [← Tr.right_ref ns ps (ns.length + 1) (by omega)]
  unfold Tr.refRight
  have h' : (dnAll ns (ns.length + 1) ps (zeros ns.length)).1 = true := h
  rw [if_neg g, if_pos h']
  simp only [Tr.fits_may]
  rfl
theorem rr_bad {ns : List Nd} {ps : List Pt} (g : ¬ (ps.length = 0 ∨ 20 < ps.length ∨ 600 < ns.length)) (h : (cts ns ps).1 = true) {i : Nat} (hi : i < ns.length) (hb : ((cts ns ps).2.getD i 0 == 1 && Tr.may ns[i]) = false) : Tr.right ns ps = false := by
  rw [rr_eq g h]
  cases he : (List.range ns.length).all fun i => ((cts ns ps).2.getD i 0 == 1) && (match ns[i]? with | some n => Tr.may n | none => true) with
  | false => rfl
  | true =>
    rw [List.all_eq_true] at he
    have := he i (List.mem_range.2 hi)
    rw [List.getElem?_eq_getElem hi] at this
    simp only at this
    rw [hb] at this; exact this.symm
theorem rr_yes {ns : List Nd} {ps : List Pt} (g : ¬ (ps.length = 0 ∨ 20 < ps.length ∨ 600 < ns.length)) (h : (cts ns ps).1 = true) (hb : ∀ i (hi : i < ns.length), ((cts ns ps).2.getD i 0 == 1 && Tr.may ns[i]) = true) : Tr.right ns ps = true := by
  rw [rr_eq g h, List.all_eq_true]
  intro i hi
  have hi' := List.mem_range.1 hi
  rw [List.getElem?_eq_getElem hi']
  exact hb i hi'
theorem drop_cons {α : Type} (l : List α) (k : Nat) (h : k < l.length) : l.drop k = l[k] :: l.drop (k + 1) := (List.getElem_cons_drop h).symm
theorem zeros_ints (n : Nat) : ints (zeros n) = List.replicate n 0 := by simp [ints, zeros]
set_option maxRecDepth 100000 in
set_option maxHeartbeats 6400000 in
theorem rright_any {w : World} {A A' : Option Addr} {ns : List Nd} {ps : List Pt} (c c' : Nat) (h : TreeAt w A A' ns ps) :
    Calls Tryd.prog 15 #[.agg #[.slice A ns.length c, .slice A' ps.length c']] w fun e w' => e = .returned (.bool (Tr.right ns ps)) ∧ Below w.heap.size w w' := by
  have h1 := h.nlen
  have h2 := h.plen
  by_cases g : ps.length = 0 ∨ 20 < ps.length ∨ 600 < ns.length
  · rw [rr_small g]
    clear h
    by_cases g1 : ps.length = 0
    · have e1 : ((ps.length : Int) == 0) = true := beq_t (by omega)
      clear g g1
      go_enter Tryd.func15, Tryd.ntmps15
      go_wp2_with fail
      all_goals
        go_ret
        exact ⟨rfl, by (repeat (first | exact Below.refl _ _ | assumption | refine Below.drew ?_ | refine Below.alloc ?_ (by first | exact Nat.le_refl _ | (simp; done) | (simp; omega) | omega) _ | refine Below.setCell ?_ (by first | exact Nat.le_refl _ | (simp; done) | (simp; omega) | omega) _))⟩
    have e1 : ((ps.length : Int) == 0) = false := beq_f (by omega)
    by_cases g2 : 20 < ps.length
    · have e2 : decide ((20 : Int) < ps.length) = true := decide_eq_true (by omega)
      clear g g1 g2
      go_enter Tryd.func15, Tryd.ntmps15
      go_wp2_with fail
      all_goals
        go_ret
        exact ⟨rfl, by (repeat (first | exact Below.refl _ _ | assumption | refine Below.drew ?_ | refine Below.alloc ?_ (by first | exact Nat.le_refl _ | (simp; done) | (simp; omega) | omega) _ | refine Below.setCell ?_ (by first | exact Nat.le_refl _ | (simp; done) | (simp; omega) | omega) _))⟩
    have e2 : decide ((20 : Int) < ps.length) = false := decide_eq_false (by omega)
    have e3 : decide ((600 : Int) < ns.length) = true := decide_eq_true (by omega)
    clear g g1 g2
    go_enter Tryd.func15, Tryd.ntmps15
    go_wp2_with fail
    all_goals
      go_ret
      exact ⟨rfl, by (repeat (first | exact Below.refl _ _ | assumption | refine Below.drew ?_ | refine Below.alloc ?_ (by first | exact Nat.le_refl _ | (simp; done) | (simp; omega) | omega) _ | refine Below.setCell ?_ (by first | exact Nat.le_refl _ | (simp; done) | (simp; omega) | omega) _))⟩
  · have HNO : Hid ((cts ns ps).1 = false → Tr.right ns ps = false) := Lib.hid rr_no
    have HBAD : Hid ((cts ns ps).1 = true → ∀ i (hi : i < ns.length), ((cts ns ps).2.getD i 0 == 1 && Tr.may ns[i]) = false → Tr.right ns ps = false) := Lib.hid fun e i hi hb => rr_bad g e hi hb
    have HYES : Hid ((cts ns ps).1 = true → (∀ i (hi : i < ns.length), ((cts ns ps).2.getD i 0 == 1 && Tr.may ns[i]) = true) → Tr.right ns ps = true) := Lib.hid fun e hb => rr_yes g e hb
    have HDN := Lib.hid (down_f h c c' (w.heap.size + 1) (by omega) (by omega) (ns.length + 1))
    have hp0 : ps.length ≠ 0 := by omega
    have hp20 : ps.length ≤ 20 := by omega
    have hn600 : ns.length ≤ 600 := by omega
    clear g
    have HM := print_make (P := Tryd.prog) 52 3 .i64 8 Tryd.underlying52 (by kernel_rfl) (by decide) ns.length (by omega)
    have e1 : ((ps.length : Int) == 0) = false := beq_f (by omega)
    have e2 : decide ((20 : Int) < ps.length) = false := decide_eq_false (by omega)
    have e3 : decide ((600 : Int) < ns.length) = false := decide_eq_false (by omega)
    have HT := Lib.hid h
    have HCT : Hid (dnAll ns (ns.length + 1) ps (zeros ns.length) = cts ns ps) := Lib.hid rfl
    clear h
    generalize hr : Tr.right ns ps = r at HNO HBAD HYES ⊢
    generalize cts ns ps = R at HNO HBAD HYES HCT
    clear hr
    go_enter Tryd.func15, Tryd.ntmps15
    go_wp2_with fail
    clear HM e1 e2 e3
    have hB0 : Below w.heap.size w ((w.alloc (.cells #[.slice A ns.length c, .slice A' ps.length c'] 33)).alloc (.cells (madeCells #[Value.int .i64 0] ns.length) 3)) := by (repeat (first | exact Below.refl _ _ | assumption | refine Below.drew ?_ | refine Below.alloc ?_ (by first | exact Nat.le_refl _ | (simp; done) | (simp; omega) | omega) _ | refine Below.setCell ?_ (by first | exact Nat.le_refl _ | (simp; done) | (simp; omega) | omega) _))
    have hI0 : IB ((w.alloc (.cells #[.slice A ns.length c, .slice A' ps.length c'] 33)).alloc (.cells (madeCells #[Value.int .i64 0] ns.length) 3)) (w.heap.size + 1) (ints (zeros ns.length)) := by
      rw [zeros_ints]
      have := IB.made (w.alloc (.cells #[.slice A ns.length c, .slice A' ps.length c'] 33)) ns.length
      simpa using this
    have hT0 : TB ((w.alloc (.cells #[.slice A ns.length c, .slice A' ps.length c'] 33)).alloc (.cells (madeCells #[Value.int .i64 0] ns.length) 3)) w.heap.size A A' ns.length c ps.length c' := blk_alloc (blk_new w _) _
    generalize hgu : w.heap.size + 1 = gu at hI0 HDN ⊢
    generalize ((w.alloc (.cells #[.slice A ns.length c, .slice A' ps.length c'] 33)).alloc (.cells (madeCells #[Value.int .i64 0] ns.length) 3)) = W0 at hB0 hI0 hT0 ⊢
    have HI0 := Lib.hid hI0
    have HT0 := Lib.hid hT0
    have HG := Lib.hid hgu
    clear hI0 hT0 hgu
    have HZ : Hid ((zeros ns.length).length = ns.length ∧ (∀ j, (zeros ns.length).getD j 0 ≤ 1) ∧ dnAll ns (ns.length + 1) (ps.drop 0) (zeros ns.length) = R) := Lib.hid ⟨by simp [zeros], fun j => by rw [Tr.zeros_get]; omega, HCT.out⟩
    go_loopw [4] (fun i wr => ∃ (k : Nat) (u : List Nat), k ≤ ps.length ∧ i = .int .i64 k ∧ Below w.heap.size w wr ∧ Hid (IB wr gu (ints u)) ∧ Hid (TB wr w.heap.size A A' ns.length c ps.length c') ∧ Hid (u.length = ns.length ∧ (∀ j, u.getD j 0 ≤ 1) ∧ dnAll ns (ns.length + 1) (ps.drop k) u = R)) (fun i _ => ps.length - (RowKit.intOf i).toNat)
    case atStart => exact ⟨0, _, by omega, rfl, hB0, HI0, HT0, HZ⟩
    case round =>
      clear hB0 HI0 HT0 HZ
      obtain ⟨k, u, hk, rfl, HB, HI, HTB, HU⟩ := hrel
      have kb0 : wr.cell? ⟨w.heap.size, 0, none⟩ = some (.slice A ns.length c) := (blk_cell HTB.out 0).trans rfl
      have kb1 : wr.cell? ⟨w.heap.size, 1, none⟩ = some (.slice A' ps.length c') := (blk_cell HTB.out 1).trans rfl
      by_cases hlt : k < ps.length
      · obtain ⟨a, ha, hab, x0, x1⟩ := HT.out.parts k hlt
        replace x0 := (HB.cell (p := a.add (k * 2)) (by rw [add_block]; exact hab)).trans x0
        have hul := HU.out.1
        have hule := HU.out.2.1
        have hdr := HU.out.2.2
        rw [drop_cons ps k hlt, dnAll] at hdr
        have hA : ∀ w1, Below w.heap.size w w1 → IB w1 gu (ints u) → _ := fun w1 b1 b2 => HDN.out ps[k].root u w1 b1 b2 hul hule (by omega)
        have hd1 := dnF_le (ns.length + 1) ps[k].root u hul hule
        have hl1 := (Tr.dnF_len ns (ns.length + 1) ps[k].root u).trans hul
        generalize ps[k].root = z at x0 hA hd1 hl1 hdr
        generalize dnF ns (ns.length + 1) z u = Q at hA hd1 hl1 hdr
        obtain ⟨b1, u1⟩ := Q
        subst ha
        have HA := Lib.hid hA
        have HBZ : Hid (∀ z, Bx gu wr z → Below w.heap.size w z) := Lib.hid fun z hz => HB.trans (hz.1.mono (by have := HG.out; omega))
        have HC : Hid (∀ y, Bx gu wr y → y.cell? ⟨w.heap.size, 0, none⟩ = some (.slice A ns.length c) ∧ y.cell? ⟨w.heap.size, 1, none⟩ = some (.slice (some a) ps.length c') ∧ y.cell? (a.add (k * 2)) = some (.int .i64 z)) := Lib.hid fun y hy =>
          ⟨(hy.1.cell (p := ⟨w.heap.size, 0, none⟩) (by have := HG.out; show w.heap.size < gu; omega)).trans kb0, (hy.1.cell (p := ⟨w.heap.size, 1, none⟩) (by have := HG.out; show w.heap.size < gu; omega)).trans kb1, (hy.1.cell (p := a.add (k * 2)) (by
            have := HG.out; rw [add_block]; omega)).trans x0⟩
        have e1 : (k : Int) < ps.length := by omega
        clear hA x1 hab
        have K1 := HC.out wr (Bx.refl _ _)
        clear kb0 kb1 x0
        cases b1
        · have HF : Hid (r = false) := Lib.hid (HNO.out (by rw [← hdr, if_neg (by simp)]))
          clear hd1 hl1 hdr hul hule
          go_wp2_with fail
          go_region_held3 (fun y => Bx gu wr y ∧ y.cell? ⟨w.heap.size, 0, none⟩ = some (.slice A ns.length c) ∧ y.cell? ⟨w.heap.size, 1, none⟩ = some (.slice (some a) ps.length c') ∧ y.cell? (a.add (k * 2)) = some (.int .i64 z)) ((refine ⟨?_, HC.out _ ?_⟩ <;> (repeat (first | (with_reducible exact Bx.refl _ _) | (with_reducible refine Bx.drew ?_) | ((with_reducible apply Bx.trans); rotate_left; assumption))))) (((go_at_call 35; (with_reducible refine (HA.out _ ?_ ?_).mono ?_); (focus (refine HBZ.out _ ?_; (repeat (first | (with_reducible exact Bx.refl _ _) | (with_reducible refine Bx.drew ?_) | ((with_reducible apply Bx.trans); rotate_left; assumption))); done)); (focus (exact HI.out; done)); rintro e w3 ⟨rfl, I3, X3⟩)))
          all_goals
            go_wp2_with fail
            go_ret
            refine ⟨by rw [HF.out]; rfl, HBZ.out _ ?_⟩
            (repeat (first | (with_reducible exact Bx.refl _ _) | (with_reducible refine Bx.drew ?_) | ((with_reducible apply Bx.trans); rotate_left; assumption)))
        · have HU1 : Hid (u1.length = ns.length ∧ (∀ j, u1.getD j 0 ≤ 1) ∧ dnAll ns (ns.length + 1) (ps.drop (k + 1)) u1 = R) := Lib.hid ⟨hl1, hd1 rfl, by rw [← hdr, if_pos rfl]⟩
          clear hd1 hl1 hdr hul hule
          go_wp2_with fail
          go_region_held3 (fun y => Bx gu wr y ∧ y.cell? ⟨w.heap.size, 0, none⟩ = some (.slice A ns.length c) ∧ y.cell? ⟨w.heap.size, 1, none⟩ = some (.slice (some a) ps.length c') ∧ y.cell? (a.add (k * 2)) = some (.int .i64 z)) ((refine ⟨?_, HC.out _ ?_⟩ <;> (repeat (first | (with_reducible exact Bx.refl _ _) | (with_reducible refine Bx.drew ?_) | ((with_reducible apply Bx.trans); rotate_left; assumption))))) (((go_at_call 35; (with_reducible refine (HA.out _ ?_ ?_).mono ?_); (focus (refine HBZ.out _ ?_; (repeat (first | (with_reducible exact Bx.refl _ _) | (with_reducible refine Bx.drew ?_) | ((with_reducible apply Bx.trans); rotate_left; assumption))); done)); (focus (exact HI.out; done)); rintro e w3 ⟨rfl, I3, X3⟩)))
          all_goals
            have HI3 := Lib.hid I3
            have HX3 : Hid (Bx gu wr w3) := Lib.hid (by (repeat (first | (with_reducible exact Bx.refl _ _) | (with_reducible refine Bx.drew ?_) | ((with_reducible apply Bx.trans); rotate_left; assumption))))
            clear I3 X3
            go_wp2_with fail
            go_roundw
            case rel =>
              have hb : Bx gu wr w3.drew → True := fun _ => trivial
              exact ⟨k + 1, u1, by omega, by go_num, HBZ.out _ HX3.out, HI3, Lib.hid ((HX3.out.1.block w.heap.size (by have := HG.out; omega)).trans HTB.out), HU1⟩
            case measure => simp [RowKit.intOf]; omega
      · have hkp : k = ps.length := by omega
        subst hkp
        have hRu : R = (true, u) := by
          have := HU.out.2.2
          rw [List.drop_eq_nil_of_le (by omega), dnAll] at this
          exact this.symm
        have HBAD2 : Hid (∀ i (hi : i < ns.length), (u.getD i 0 == 1 && Tr.may ns[i]) = false → r = false) := Lib.hid (by have := HBAD.out; rw [hRu] at this; exact this rfl)
        have HYES2 : Hid ((∀ i (hi : i < ns.length), (u.getD i 0 == 1 && Tr.may ns[i]) = true) → r = true) := Lib.hid (by have := HYES.out; rw [hRu] at this; exact this rfl)
        have HUL := Lib.hid HU.out.1
        clear HBAD HYES HNO HU hRu HCT
        go_wp2_with fail
        clear kb0 kb1
        go_loopw [5] (fun j wi => ∃ q : Nat, q ≤ ns.length ∧ j = .int .i64 q ∧ Below wr.heap.size wr wi ∧ Hid (∀ i (hi : i < ns.length), i < q → (u.getD i 0 == 1 && Tr.may ns[i]) = true)) (fun j _ => ns.length - (RowKit.intOf j).toNat)
        case atStart => exact ⟨0, by omega, rfl, Below.refl _ _, Lib.hid fun i hi h => absurd h (by omega)⟩
        case round =>
          obtain ⟨q, hq, rfl, HBQ, HOK⟩ := hrel
          have HI2 := (HI.out.below HBQ)
          have kb0 := (blk_cell (blk_below HTB.out HBQ) 0).trans (rfl : _ = some (Value.slice A ns.length c))
          have HBB := Lib.hid (bthen HB HBQ)
          by_cases hql : q < ns.length
          · have hcq := HI2.cell q (by rw [ints_len, HUL.out]; exact hql)
            have hgq : (ints u)[q]'(by rw [ints_len, HUL.out]; exact hql) = ((u.getD q 0 : Nat) : Int) := by simp [ints, List.getD, List.getElem?_eq_getElem (show q < u.length by rw [HUL.out]; exact hql)]
            rw [hgq] at hcq
            have hbd := Lib.hid (HBAD2.out q hql)
            obtain ⟨a, ha, hab, hN⟩ := HT.out.nodes q hql
            subst ha
            obtain ⟨c0, c1, c2, c3, c4, c5, c6, c7, c8⟩ := hN.below HBB.out (by rw [add_block]; exact hab)
            have hnx : Hid (∀ i (hi : i < ns.length), i < q + 1 → (u.getD q 0 == 1 && Tr.may ns[q]) = true → (u.getD i 0 == 1 && Tr.may ns[i]) = true) := Lib.hid fun i hi h1 h2 => by
              by_cases e : i = q
              · subst e; exact h2
              · exact HOK.out i hi (by omega)
            have HFI := Lib.hid (fun w1 => fits_any ns[q] w1)
            generalize ns[q] = n at *
            generalize u.getD q 0 = y at *
            have e1 : (q : Int) < ns.length := by omega
            clear hN hab HI2 hgq
            by_cases hy : y = 1
            · replace hcq : _ = some (Value.int .i64 1) := hcq.trans (by rw [hy]; rfl)
              rw [hy] at hbd hnx
              clear hy
              cases hm : Tr.may n
              · rw [hm] at HFI
                have HF := Lib.hid (hbd.out (by rw [hm]; rfl))
                clear hm
                go_wp2_with fail
                refine (HFI.out _).mono ?_
                rintro e w3 ⟨rfl, B3⟩
                have HB3 := Lib.hid (bthen HBB.out B3)
                clear B3
                go_wp2_with fail
                go_ret
                exact ⟨by rw [HF.out]; rfl, HB3.out⟩
              · rw [hm] at HFI
                have HNX := Lib.hid (fun i hi h1 => hnx.out i hi h1 (by rw [hm]; rfl))
                clear hm
                go_wp2_with fail
                refine (HFI.out _).mono ?_
                rintro e w3 ⟨rfl, B3⟩
                have HB3 := Lib.hid (bthen HBQ B3)
                clear B3
                go_wp2_with fail
                go_roundw
                case rel =>
                  exact ⟨q + 1, by omega, by go_num, HB3.out, HNX⟩
                case measure => simp [RowKit.intOf]; omega
            · have HF := Lib.hid (hbd.out (by rw [show (y == 1) = false by simpa using hy]; rfl))
              have y1 : ((y : Int) != 1) = true := by simp; omega
              clear hy
              go_wp2_with fail
              all_goals
                go_ret
                exact ⟨by rw [HF.out]; rfl, HBB.out⟩
          · have HF := Lib.hid (HYES2.out fun i hi => HOK.out i hi (by omega))
            go_wp2_with fail
            go_ret
            exact ⟨by rw [HF.out]; rfl, HBB.out⟩
end Go.Proofs.YtebkaajnnjfhjaaDoor
