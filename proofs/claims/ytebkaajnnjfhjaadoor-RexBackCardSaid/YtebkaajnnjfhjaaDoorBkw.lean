/-
  RexBack: walked.
-/
import Derived.Test.YtebkaajnnjfhjaaDoorAlk
import Derived.Test.YtebkaajnnjfhjaaDoorAwk7
import Derived.Test.YtebkaajnnjfhjaaDoorBk
import Derived.Deep.DeepCutAuto
namespace Go.Proofs.YtebkaajnnjfhjaaDoor
set_option linter.unusedVariables false
set_option linter.unusedSimpArgs false
open Go.RowKit Go.Proofs.YtebkaajnnjfhjaaDoorW.PrintWords
open Tr (Nd Pt T R sz rootI post ndsL ptsL szL)

theorem rparse_all (l : List UInt8) (w : World) : Calls Tryd.prog 21 #[.string ⟨l.toArray⟩] w (OutParse w (Tr.rparse 600 l)) := by
  by_cases h200 : 200 < l.length
  · have hmf : ∀ (fn : Fn) (first cap : Array Value) (w : World), (Instr.makeFunc fn first cap).run Tryd.prog w = .ok (.func fn first cap) w := fun _ _ _ _ => rfl
    have hres : Hid (Tr.rparse 600 l = .no 200 3) := Lib.hid (if_pos h200)
    rw [hres.out]
    have ht : decide ((200 : Int) < l.length) = true := decide_eq_true (by omega)
    clear h200
    go_enter_defers Tryd.func21, Tryd.ntmps21
    go_wp2_with fail
    refine ⟨.tuple #[.agg #[.slice none 0 0, .slice none 0 0], .int .i64 200, .int .i64 3], by simp [results, Tryd.results21, go_sem], ?_, rfl⟩
    (repeat (first | exact Below.refl _ _ | assumption | refine Below.drew ?_ | refine Below.alloc ?_ (by first | exact Nat.le_refl _ | (simp; done) | (simp; omega) | omega) _ | refine Below.setCell ?_ (by first | exact Nat.le_refl _ | (simp; done) | (simp; omega) | omega) _))
  · exact rparse_any l (by omega) w
/-- What reading a print comes to: the tree again, or too long. -/
theorem print_read {L : List (Bool × T)} (hok : ∀ x ∈ L, x.2.Ok) (h1 : 1 ≤ L.length) (h2 : L.length ≤ 20) (h6 : szL L ≤ 600) (fit : Bool) (hf : fit = (decide ((Tr.pparts L).length ≤ 200) && (decide (Tr.plcs 0 L ≤ 63) && decide (Tr.nsts L ≤ 16)))) (w : World) :
    Calls Tryd.prog 21 #[.string ⟨(Tr.pparts L).toArray⟩] w fun e w' => Below w.heap.size w w' ∧ match fit with
      | true => ∃ A A' c c', e = .returned (.tuple #[.agg #[.slice A (ndsL 0 L).length c, .slice A' (ptsL 0 L).length c'], .int .i64 0, .int .i64 0]) ∧ TreeAt w' A A' (ndsL 0 L) (ptsL 0 L)
      | false => ∃ q : Int, e = .returned (.tuple #[.agg #[.slice none 0 0, .slice none 0 0], .int .i64 q, .int .i64 3]) := by
  obtain ⟨b1, b2, b3, b4⟩ := Tr.back hok h1 h2 h6
  refine (rparse_all _ w).mono ?_
  rintro e w' ⟨hB, hO⟩
  refine ⟨hB, ?_⟩
  cases fit
  · have : ∃ q : Nat, Tr.rparse 600 (Tr.pparts L) = .no q 3 := by
      by_cases k1 : 200 < (Tr.pparts L).length
      · exact ⟨_, b1 k1⟩
      · by_cases k2 : 16 < Tr.nsts L
        · exact b2 (by omega) k2
        · by_cases k3 : 63 < Tr.plcs 0 L
          · exact ⟨_, b3 (by omega) (by omega) k3⟩
          · exfalso
            have : (decide ((Tr.pparts L).length ≤ 200) && (decide (Tr.plcs 0 L ≤ 63) && decide (Tr.nsts L ≤ 16))) = true := by
              rw [decide_eq_true (by omega), decide_eq_true (by omega), decide_eq_true (by omega)]; rfl
            rw [this] at hf
            cases hf
    obtain ⟨q, hq⟩ := this
    rw [hq] at hO
    exact ⟨q, hO⟩
  · have hf' := hf.symm
    simp only [Bool.and_eq_true, decide_eq_true_eq] at hf'
    obtain ⟨p, hp⟩ := b4 hf'.1 hf'.2.2 hf'.2.1
    rw [hp] at hO
    obtain ⟨A, A', c, c', he, hT, -⟩ := hO
    exact ⟨A, A', c, c', he, hT⟩
set_option maxRecDepth 100000 in
set_option maxHeartbeats 12800000 in
theorem rexback_any {A A' : Option Addr} {ns : List Nd} {ps : List Pt} (c c' : Nat) (hw : Tr.Words ns) (l : List UInt8) (w : World) (hT : TreeAt w A A' ns ps) (hL : Laid w) :
    Calls Tryd.prog 7 #[.agg #[.slice A ns.length c, .slice A' ps.length c'], .string ⟨l.toArray⟩] w fun e w' => e = .returned (.bool true) ∧ Below w.heap.size w w' := by
  have hml : ∃ m : List UInt8, m.length ≤ 300 ∧ m = if 300 < l.length then l.take 300 else l := by
    refine ⟨_, ?_, rfl⟩
    split
    · simp; omega
    · omega
  obtain ⟨ml, hll, hel⟩ := hml
  have HEl := Lib.hid hel
  clear hel
  have HT := Lib.hid hT
  have HL := Lib.hid hL
  have HW := Lib.hid hw
  have HBX0 : Hid (∀ z, Below (w.alloc (.cells #[.slice A ns.length c, .slice A' ps.length c'] 33)).heap.size (w.alloc (.cells #[.slice A ns.length c, .slice A' ps.length c'] 33)) z → (z.cell? ⟨w.heap.size, 0, none⟩ = some (.slice A ns.length c) ∧ z.cell? ⟨w.heap.size, 1, none⟩ = some (.slice A' ps.length c')) ∧ TreeAt z A A' ns ps ∧ Laid z ∧ Below w.heap.size w z) := Lib.hid fun z hz => by
    have k := blk_below (blk_new w (.cells #[.slice A ns.length c, .slice A' ps.length c'] 33)) hz
    have h0 : Below w.heap.size w (w.alloc (.cells #[.slice A ns.length c, .slice A' ps.length c'] 33)) := by (repeat (first | exact Below.refl _ _ | assumption | refine Below.drew ?_ | refine Below.alloc ?_ (by first | exact Nat.le_refl _ | (simp; done) | (simp; omega) | omega) _ | refine Below.setCell ?_ (by first | exact Nat.le_refl _ | (simp; done) | (simp; omega) | omega) _))
    have h1 := bthen h0 hz
    exact ⟨⟨(blk_cell k 0).trans rfl, (blk_cell k 1).trans rfl⟩, HT.out.below h1, HL.out.below h1, h1⟩
  clear hT hL hw
  go_enter Tryd.func7, Tryd.ntmps7
  go_wp2_with fail
  obtain ⟨X, hX⟩ : ∃ X, X = w.alloc (.cells #[.slice A ns.length c, .slice A' ps.length c'] 33) := ⟨_, rfl⟩
  rw [← hX] at HBX0 ⊢
  clear hX
  obtain ⟨g0, hg0⟩ : ∃ g0, w.heap.size = g0 := ⟨_, rfl⟩
  have HG0 := Lib.hid hg0
  have HY : Hid (∀ z, Below X.heap.size X z → (z.cell? ⟨g0, 0, none⟩ = some (.slice A ns.length c) ∧ z.cell? ⟨g0, 1, none⟩ = some (.slice A' ps.length c')) ∧ TreeAt z A A' ns ps ∧ Laid z ∧ Below w.heap.size w z) := Lib.hid (by rw [← hg0]; exact HBX0.out)
  rw [hg0]
  clear HBX0 hg0
  refine (great_any c c' (HY.out X (Below.refl _ _)).2.1).mono ?_
  rintro e w1 ⟨rfl, B1⟩
  cases hgr : (decide (700 < ns.length) || decide (30 < ps.length))
  · clear hgr
    have HB1 := Lib.hid B1
    clear B1
    obtain ⟨k0, k1⟩ := (HY.out _ HB1.out).1
    go_upto_if 22 with (fail)
    go_cut [1] (fun sx wx => sx = .string ⟨ml.toArray⟩ ∧ w1 = wx)
    case first =>
      go_wp2_with fail
      all_goals
        go_meet
        case rel =>
          refine ⟨?_, rfl⟩
          have hE := HEl.out
          by_cases hq : 300 < l.length
          · rw [if_pos hq] at hE
            first | (rw [hE]; done) | (exfalso; omega)
          · rw [if_neg hq] at hE
            first | (rw [hE]; done) | (exfalso; omega)
    obtain ⟨rfl, rfl⟩ := hcut
    clear HEl
    go_wp2_with fail
    refine (right_any c c' (HY.out _ HB1.out).2.1).mono ?_
    rintro e w2 ⟨rfl, B2⟩
    have HB2 := Lib.hid (bthen HB1.out B2)
    clear B2 HB1 k0 k1
    go_upto_if 26 with (fail)
    go_cut [] (fun wx => Hid (Below X.heap.size X wx))
    case first =>
      cases hr : Tr.right ns ps
      · go_wp2_with fail
        all_goals
          go_meet
          case rel => exact HB2
      · have hG := (Tr.right_iff ns ps).1 hr
        have hok := Tr.trees_ok hG HW.out
        have hl1 : 1 ≤ (Tr.trees ns ps).length := by simp [Tr.trees]; exact hG.p1
        have hl2 : (Tr.trees ns ps).length ≤ 20 := by simp [Tr.trees]; exact hG.p2
        have hl6 : szL (Tr.trees ns ps) ≤ 600 := by rw [Tr.szL_trees hG]; exact hG.n2
        have HPR : Hid (Tr.print ns ps = Tr.pparts (Tr.trees ns ps)) := Lib.hid (by unfold Tr.print; rw [hr, if_pos rfl])
        have HPL : Hid (Tr.places ns ps = Tr.plcs 0 (Tr.trees ns ps)) := Lib.hid (by unfold Tr.places; rw [hr, if_pos rfl])
        have HOP : Hid (Tr.opn (Tr.pparts (Tr.trees ns ps)) 0 0 false = (Tr.nsts (Tr.trees ns ps) : Int)) := Lib.hid (by rw [Tr.opn_parts _ hok 0 (by omega)]; omega)
        have HTR := Lib.hid (show Tr.trees ns ps = Tr.trees (ndsL 0 (Tr.trees ns ps)) (ptsL 0 (Tr.trees ns ps)) from (Tr.trees_read _).symm)
        have HGG := Lib.hid hG
        have HGR := Lib.hid (Tr.read_good hok hl1 hl2 hl6)
        have HRD := Lib.hid (fun fit hf w => print_read hok hl1 hl2 hl6 fit hf w)
        have HZL : Hid (szL (Tr.trees ns ps) ≤ 600 ∧ (Tr.trees ns ps).length ≤ 20) := Lib.hid ⟨hl6, hl2⟩
        clear hr hG hok hl1 hl2 hl6
        generalize hLL : Tr.trees ns ps = L at *
        obtain ⟨k0, k1⟩ := (HY.out _ HB2.out).1
        go_wp2_with fail
        clear k0 k1
        refine (print_any c c' HW.out _ (HY.out _ HB2.out).2.1 (HY.out _ HB2.out).2.2.1).mono ?_
        rintro e w3 ⟨rfl, B3⟩
        have HB3 := Lib.hid (bthen HB2.out B3)
        clear B3
        rw [HPR.out]
        clear HPR
        go_wp2_with fail
        by_cases j1 : (Tr.pparts L).length ≤ 200
        · by_cases j2 : Tr.plcs 0 L ≤ 63
          · by_cases j3 : Tr.nsts L ≤ 16
            · refine (HRD.out true (by rw [decide_eq_true j1, decide_eq_true j2, decide_eq_true j3]; rfl) w3).mono ?_
              rintro e w4 ⟨B4, A1, A2, c1, c2, rfl, hT4⟩
              have t1 : decide (((Tr.pparts L).length : Int) ≤ 200) = true := decide_eq_true (by omega)
              have HU : Hid (∀ z, Below (w4.alloc (.cells #[.slice A1 (ndsL 0 L).length c1, .slice A2 (ptsL 0 L).length c2] 33)).heap.size (w4.alloc (.cells #[.slice A1 (ndsL 0 L).length c1, .slice A2 (ptsL 0 L).length c2] 33)) z → (z.cell? ⟨w4.heap.size, 0, none⟩ = some (.slice A1 (ndsL 0 L).length c1) ∧ z.cell? ⟨w4.heap.size, 1, none⟩ = some (.slice A2 (ptsL 0 L).length c2)) ∧ TreeAt z A1 A2 (ndsL 0 L) (ptsL 0 L) ∧ Below X.heap.size X z) := Lib.hid fun z hz => by
                have k := blk_below (blk_new w4 (.cells #[.slice A1 (ndsL 0 L).length c1, .slice A2 (ptsL 0 L).length c2] 33)) hz
                have h0 : Below w4.heap.size w4 (w4.alloc (.cells #[.slice A1 (ndsL 0 L).length c1, .slice A2 (ptsL 0 L).length c2] 33)) := by (repeat (first | exact Below.refl _ _ | assumption | refine Below.drew ?_ | refine Below.alloc ?_ (by first | exact Nat.le_refl _ | (simp; done) | (simp; omega) | omega) _ | refine Below.setCell ?_ (by first | exact Nat.le_refl _ | (simp; done) | (simp; omega) | omega) _))
                have h1 := bthen h0 hz
                exact ⟨⟨(blk_cell k 0).trans rfl, (blk_cell k 1).trans rfl⟩, hT4.below h1, bthen HB3.out (bthen B4 h1)⟩
              obtain ⟨k0, k1⟩ := (HY.out _ (HU.out _ (Below.refl _ _)).2.2).1
              clear hT4 B4
              go_wp2_with fail
              refine (places_any c c' (HY.out _ (HU.out _ (Below.refl _ _)).2.2).2.1).mono ?_
              rintro e w5 ⟨rfl, B5⟩
              have HB5 := Lib.hid B5
              clear B5 k0 k1
              rw [HPL.out]
              have t2 : decide ((Tr.plcs 0 L : Int) ≤ 63) = true := decide_eq_true (by omega)
              go_wp2_with fail
              refine (open_any _ (by omega) _).mono ?_
              rintro e w6 ⟨rfl, rfl⟩
              rw [HOP.out]
              have t3 : decide ((Tr.nsts L : Int) ≤ 16) = true := decide_eq_true (by omega)
              obtain ⟨k0, k1⟩ := (HY.out _ (HU.out _ HB5.out).2.2).1
              obtain ⟨k2, k3⟩ := (HU.out _ HB5.out).1
              go_wp2_with fail
              refine (alike7_any c c' c1 c2 (HY.out _ (HU.out _ HB5.out).2.2).2.1 (HU.out _ HB5.out).2.1 HGG.out HGR.out (hLL.trans HTR.out)).mono ?_
              rintro e w7 ⟨rfl, B7⟩
              have HB7 := Lib.hid (HU.out _ (bthen HB5.out B7)).2.2
              clear B7 k0 k1 k2 k3
              go_wp2_with fail
              all_goals
                go_meet
                case rel => exact HB7
            · refine (HRD.out false (by rw [decide_eq_true j1, decide_eq_true j2, decide_eq_false j3]; rfl) w3).mono ?_
              rintro e w4 ⟨B4, q, rfl⟩
              have t1 : decide (((Tr.pparts L).length : Int) ≤ 200) = true := decide_eq_true (by omega)
              have HB4 : Hid (Below X.heap.size X (w4.alloc (.cells #[.slice none 0 0, .slice none 0 0] 33))) := Lib.hid (bthen HB3.out (bthen B4 (by (repeat (first | exact Below.refl _ _ | assumption | refine Below.drew ?_ | refine Below.alloc ?_ (by first | exact Nat.le_refl _ | (simp; done) | (simp; omega) | omega) _ | refine Below.setCell ?_ (by first | exact Nat.le_refl _ | (simp; done) | (simp; omega) | omega) _)))))
              obtain ⟨k0, k1⟩ := (HY.out _ HB4.out).1
              go_wp2_with fail
              refine (places_any c c' (HY.out _ HB4.out).2.1).mono ?_
              rintro e w5 ⟨rfl, B5⟩
              have HB5 := Lib.hid (bthen HB4.out B5)
              clear B5
              rw [HPL.out]
              have t2 : decide ((Tr.plcs 0 L : Int) ≤ 63) = true := decide_eq_true (by omega)
              go_wp2_with fail
              refine (open_any _ (by omega) _).mono ?_
              rintro e w6 ⟨rfl, rfl⟩
              rw [HOP.out]
              have t3 : decide ((Tr.nsts L : Int) ≤ 16) = false := decide_eq_false (by omega)
              go_wp2_with fail
              all_goals
                go_meet
                case rel => exact HB5
          · refine (HRD.out false (by rw [decide_eq_true j1, decide_eq_false j2]; rfl) w3).mono ?_
            rintro e w4 ⟨B4, q, rfl⟩
            have t1 : decide (((Tr.pparts L).length : Int) ≤ 200) = true := decide_eq_true (by omega)
            have HB4 : Hid (Below X.heap.size X (w4.alloc (.cells #[.slice none 0 0, .slice none 0 0] 33))) := Lib.hid (bthen HB3.out (bthen B4 (by (repeat (first | exact Below.refl _ _ | assumption | refine Below.drew ?_ | refine Below.alloc ?_ (by first | exact Nat.le_refl _ | (simp; done) | (simp; omega) | omega) _ | refine Below.setCell ?_ (by first | exact Nat.le_refl _ | (simp; done) | (simp; omega) | omega) _)))))
            obtain ⟨k0, k1⟩ := (HY.out _ HB4.out).1
            go_wp2_with fail
            refine (places_any c c' (HY.out _ HB4.out).2.1).mono ?_
            rintro e w5 ⟨rfl, B5⟩
            have HB5 := Lib.hid (bthen HB4.out B5)
            clear B5
            rw [HPL.out]
            have t2 : decide ((Tr.plcs 0 L : Int) ≤ 63) = false := decide_eq_false (by omega)
            go_wp2_with fail
            all_goals
              go_meet
              case rel => exact HB5
        · refine (HRD.out false (by rw [decide_eq_false j1]; rfl) w3).mono ?_
          rintro e w4 ⟨B4, q, rfl⟩
          have t1 : decide (((Tr.pparts L).length : Int) ≤ 200) = false := decide_eq_false (by omega)
          have HB4 : Hid (Below X.heap.size X (w4.alloc (.cells #[.slice none 0 0, .slice none 0 0] 33))) := Lib.hid (bthen HB3.out (bthen B4 (by (repeat (first | exact Below.refl _ _ | assumption | refine Below.drew ?_ | refine Below.alloc ?_ (by first | exact Nat.le_refl _ | (simp; done) | (simp; omega) | omega) _ | refine Below.setCell ?_ (by first | exact Nat.le_refl _ | (simp; done) | (simp; omega) | omega) _)))))
          go_wp2_with fail
          all_goals
            go_meet
            case rel => exact HB4
    case rest =>
      have HBc := hcut
      clear hcut HB2 HL HW HT
      have HF := Tr.rparse_fin ml hll
      go_wp2_with fail
      refine (rparse_any ml hll _).mono ?_
      rintro e w3 ⟨B3, hO⟩
      cases hres : Tr.rparse 600 ml with
      | no q x =>
        rw [hres] at hO HF
        subst hO
        have HB3 : Hid (Below w.heap.size w (w3.alloc (.cells #[.slice none 0 0, .slice none 0 0] 33))) := Lib.hid (HY.out _ (bthen HBc.out (bthen B3 (by (repeat (first | exact Below.refl _ _ | assumption | refine Below.drew ?_ | refine Below.alloc ?_ (by first | exact Nat.le_refl _ | (simp; done) | (simp; omega) | omega) _ | refine Below.setCell ?_ (by first | exact Nat.le_refl _ | (simp; done) | (simp; omega) | omega) _)))))).2.2.2
        obtain ⟨rfl | rfl, -⟩ := HF
        all_goals
          go_wp2_with fail
          refine (rawake_any _).mono ?_
          rintro e wz ⟨rfl, Bz⟩
          have HZ := Lib.hid (bthen (show Below w.heap.size w _ from by (exact HB3.out)) Bz)
          clear Bz
          go_wp2_with fail
          go_ret
          exact ⟨rfl, HZ.out⟩
      | ok L r p =>
        rw [hres] at hO
        obtain ⟨A1, A2, c1, c2, rfl, hT3, hz6⟩ := hO
        obtain ⟨l2, hok, hl1, hl2, hp63⟩ := Tr.rparse_is hres
        have hgood := Tr.read_good hok hl1 hl2 hz6
        have hright := (Tr.right_iff _ _).2 hgood
        have HGR := Lib.hid hgood
        have HRT : Hid (Tr.right (ndsL 0 L) (ptsL 0 L) = true) := Lib.hid hright
        have HPR : Hid (Tr.print (ndsL 0 L) (ptsL 0 L) = Tr.pparts L) := Lib.hid (by unfold Tr.print; rw [hright, if_pos rfl, Tr.trees_read])
        have HPL : Hid (Tr.places (ndsL 0 L) (ptsL 0 L) = Tr.plcs 0 L ∧ Tr.plcs 0 L ≤ 63) := Lib.hid (by have := (Tr.places_read hok hl1 hl2 hz6).2; exact ⟨this, by rw [← this]; exact hp63⟩)
        have HOP : Hid (Tr.opn (Tr.pparts L) 0 0 false = (Tr.nsts L : Int)) := Lib.hid (by rw [Tr.opn_parts _ hok 0 (by omega)]; omega)
        have HRD := Lib.hid (fun fit hf w => print_read hok hl1 hl2 hz6 fit hf w)
        have HWD : Hid (Tr.Words (ndsL 0 L)) := Lib.hid (fun n hn => (Tr.ndsL_may L hok 0 n hn).2)
        have HU : Hid (∀ z, Below (w3.alloc (.cells #[.slice A1 (ndsL 0 L).length c1, .slice A2 (ptsL 0 L).length c2] 33)).heap.size (w3.alloc (.cells #[.slice A1 (ndsL 0 L).length c1, .slice A2 (ptsL 0 L).length c2] 33)) z → (z.cell? ⟨w3.heap.size, 0, none⟩ = some (.slice A1 (ndsL 0 L).length c1) ∧ z.cell? ⟨w3.heap.size, 1, none⟩ = some (.slice A2 (ptsL 0 L).length c2)) ∧ TreeAt z A1 A2 (ndsL 0 L) (ptsL 0 L) ∧ Laid z ∧ Below w.heap.size w z) := Lib.hid fun z hz => by
          have k := blk_below (blk_new w3 (.cells #[.slice A1 (ndsL 0 L).length c1, .slice A2 (ptsL 0 L).length c2] 33)) hz
          have h0 : Below w3.heap.size w3 (w3.alloc (.cells #[.slice A1 (ndsL 0 L).length c1, .slice A2 (ptsL 0 L).length c2] 33)) := by (repeat (first | exact Below.refl _ _ | assumption | refine Below.drew ?_ | refine Below.alloc ?_ (by first | exact Nat.le_refl _ | (simp; done) | (simp; omega) | omega) _ | refine Below.setCell ?_ (by first | exact Nat.le_refl _ | (simp; done) | (simp; omega) | omega) _))
          have h1 := bthen h0 hz
          have h2 := HY.out z (bthen HBc.out (bthen B3 h1))
          exact ⟨⟨(blk_cell k 0).trans rfl, (blk_cell k 1).trans rfl⟩, hT3.below h1, h2.2.2.1, h2.2.2.2⟩
        clear hT3 hgood hright hok hl1 hl2 hz6 hp63 hres HF B3 hll
        obtain ⟨k0, k1⟩ := (HU.out _ (Below.refl _ _)).1
        go_wp2_with fail
        refine (print_any c1 c2 HWD.out _ (HU.out _ (Below.refl _ _)).2.1 (HU.out _ (Below.refl _ _)).2.2.1).mono ?_
        rintro e w4 ⟨rfl, B4⟩
        have HB4 := Lib.hid B4
        clear B4 k0 k1
        obtain ⟨k0, k1⟩ := (HU.out _ HB4.out).1
        go_wp2_with fail
        refine (right_any c1 c2 (HU.out _ HB4.out).2.1).mono ?_
        rintro e w5 ⟨rfl, B5⟩
        have HB5 := Lib.hid (bthen HB4.out B5)
        clear B5 k0 k1 HB4
        rw [HRT.out]
        obtain ⟨k0, k1⟩ := (HU.out _ HB5.out).1
        go_wp2_with fail
        refine (places_any c1 c2 (HU.out _ HB5.out).2.1).mono ?_
        rintro e w6 ⟨rfl, B6⟩
        have HB6 := Lib.hid (bthen HB5.out B6)
        clear B6 k0 k1 HB5
        rw [HPL.out.1]
        have t2 : decide ((63 : Int) < (Tr.plcs 0 L : Int)) = false := decide_eq_false (by have := HPL.out.2; omega)
        have t2n : decide (63 < Tr.plcs 0 L) = false := decide_eq_false (by have := HPL.out.2; omega)
        go_wp2_with fail
        rw [HPR.out]
        by_cases j1 : (Tr.pparts L).length ≤ 200
        · have t1 : decide ((200 : Int) < ((Tr.pparts L).length : Int)) = false := decide_eq_false (by omega)
          have t1n : decide (200 < (Tr.pparts L).length) = false := decide_eq_false (by omega)
          by_cases j3 : Tr.nsts L ≤ 16
          · have t3 : decide ((16 : Int) < (Tr.nsts L : Int)) = false := decide_eq_false (by omega)
            have t3n : decide (16 < Tr.nsts L) = false := decide_eq_false (by omega)
            refine (HRD.out true (by rw [decide_eq_true j1, decide_eq_true HPL.out.2, decide_eq_true j3]; rfl) w6).mono ?_
            rintro e w7 ⟨B7, A3, A4, c3, c4, rfl, hT7⟩
            have HV : Hid (∀ z, Below (w7.alloc (.cells #[.slice A3 (ndsL 0 L).length c3, .slice A4 (ptsL 0 L).length c4] 33)).heap.size (w7.alloc (.cells #[.slice A3 (ndsL 0 L).length c3, .slice A4 (ptsL 0 L).length c4] 33)) z → (z.cell? ⟨w7.heap.size, 0, none⟩ = some (.slice A3 (ndsL 0 L).length c3) ∧ z.cell? ⟨w7.heap.size, 1, none⟩ = some (.slice A4 (ptsL 0 L).length c4)) ∧ TreeAt z A3 A4 (ndsL 0 L) (ptsL 0 L) ∧ Below (w3.alloc (.cells #[.slice A1 (ndsL 0 L).length c1, .slice A2 (ptsL 0 L).length c2] 33)).heap.size (w3.alloc (.cells #[.slice A1 (ndsL 0 L).length c1, .slice A2 (ptsL 0 L).length c2] 33)) z) := Lib.hid fun z hz => by
              have k := blk_below (blk_new w7 (.cells #[.slice A3 (ndsL 0 L).length c3, .slice A4 (ptsL 0 L).length c4] 33)) hz
              have h0 : Below w7.heap.size w7 (w7.alloc (.cells #[.slice A3 (ndsL 0 L).length c3, .slice A4 (ptsL 0 L).length c4] 33)) := by (repeat (first | exact Below.refl _ _ | assumption | refine Below.drew ?_ | refine Below.alloc ?_ (by first | exact Nat.le_refl _ | (simp; done) | (simp; omega) | omega) _ | refine Below.setCell ?_ (by first | exact Nat.le_refl _ | (simp; done) | (simp; omega) | omega) _))
              have h1 := bthen h0 hz
              exact ⟨⟨(blk_cell k 0).trans rfl, (blk_cell k 1).trans rfl⟩, hT7.below h1, bthen HB6.out (bthen B7 h1)⟩
            clear hT7 B7
            go_wp2_with fail
            refine (open_any _ (by omega) _).mono ?_
            rintro e w8 ⟨rfl, rfl⟩
            rw [HOP.out]
            obtain ⟨k0, k1⟩ := (HU.out _ (HV.out _ (Below.refl _ _)).2.2).1
            obtain ⟨k2, k3⟩ := (HV.out _ (Below.refl _ _)).1
            go_wp2_with fail
            refine (alike7_any c1 c2 c3 c4 (HU.out _ (HV.out _ (Below.refl _ _)).2.2).2.1 (HV.out _ (Below.refl _ _)).2.1 HGR.out HGR.out rfl).mono ?_
            rintro e w9 ⟨rfl, B9⟩
            have HB9 : Hid (Below w.heap.size w w9) := Lib.hid (HU.out _ (HV.out _ B9).2.2).2.2.2
            clear B9 k0 k1 k2 k3
            go_wp2_with fail
            refine (rawake_any _).mono ?_
            rintro e wz ⟨rfl, Bz⟩
            have HZ := Lib.hid (bthen (show Below w.heap.size w _ from by (exact HB9.out)) Bz)
            clear Bz
            go_wp2_with fail
            go_ret
            exact ⟨rfl, HZ.out⟩
          · have t3 : decide ((16 : Int) < (Tr.nsts L : Int)) = true := decide_eq_true (by omega)
            have t3n : decide (16 < Tr.nsts L) = true := decide_eq_true (by omega)
            refine (HRD.out false (by rw [decide_eq_true j1, decide_eq_true HPL.out.2, decide_eq_false j3]; rfl) w6).mono ?_
            rintro e w7 ⟨B7, q, rfl⟩
            have HB7 : Hid (Below w.heap.size w (w7.alloc (.cells #[.slice none 0 0, .slice none 0 0] 33))) := Lib.hid (HU.out _ (bthen HB6.out (bthen B7 (by (repeat (first | exact Below.refl _ _ | assumption | refine Below.drew ?_ | refine Below.alloc ?_ (by first | exact Nat.le_refl _ | (simp; done) | (simp; omega) | omega) _ | refine Below.setCell ?_ (by first | exact Nat.le_refl _ | (simp; done) | (simp; omega) | omega) _)))))).2.2.2
            clear B7
            go_wp2_with fail
            refine (open_any _ (by omega) _).mono ?_
            rintro e w8 ⟨rfl, rfl⟩
            rw [HOP.out]
            go_wp2_with fail
            refine (rawake_any _).mono ?_
            rintro e wz ⟨rfl, Bz⟩
            have HZ := Lib.hid (bthen (show Below w.heap.size w _ from by (exact HB7.out)) Bz)
            clear Bz
            go_wp2_with fail
            go_ret
            exact ⟨rfl, HZ.out⟩
        · have t1 : decide ((200 : Int) < ((Tr.pparts L).length : Int)) = true := decide_eq_true (by omega)
          have t1n : decide (200 < (Tr.pparts L).length) = true := decide_eq_true (by omega)
          refine (HRD.out false (by rw [decide_eq_false j1]; rfl) w6).mono ?_
          rintro e w7 ⟨B7, q, rfl⟩
          have HB7 : Hid (Below w.heap.size w (w7.alloc (.cells #[.slice none 0 0, .slice none 0 0] 33))) := Lib.hid (HU.out _ (bthen HB6.out (bthen B7 (by (repeat (first | exact Below.refl _ _ | assumption | refine Below.drew ?_ | refine Below.alloc ?_ (by first | exact Nat.le_refl _ | (simp; done) | (simp; omega) | omega) _ | refine Below.setCell ?_ (by first | exact Nat.le_refl _ | (simp; done) | (simp; omega) | omega) _)))))).2.2.2
          clear B7
          go_wp2_with fail
          refine (rawake_any _).mono ?_
          rintro e wz ⟨rfl, Bz⟩
          have HZ := Lib.hid (bthen (show Below w.heap.size w _ from by (exact HB7.out)) Bz)
          clear Bz
          go_wp2_with fail
          go_ret
          exact ⟨rfl, HZ.out⟩
  · go_wp2_with fail
    refine (rawake_any _).mono ?_
    rintro e wz ⟨rfl, Bz⟩
    have HZ := Lib.hid (bthen (HY.out _ B1).2.2.2 Bz)
    clear Bz
    go_wp2_with fail
    go_ret
    exact ⟨rfl, HZ.out⟩
theorem rexback_str {A A' : Option Addr} {ns : List Nd} {ps : List Pt} (c c' : Nat) (hw : Tr.Words ns) (a : ByteArray) (ha : a.size ≤ maxLen) (w : World) (hT : TreeAt w A A' ns ps) (hL : Laid w) :
    Calls Tryd.prog 7 #[.agg #[.slice A ns.length c, .slice A' ps.length c'], .string a] w fun e w' => e = .returned (.bool true) ∧ Below w.heap.size w w' := by
  rw [str_eq a]
  exact rexback_any c c' hw _ w hT hL
end Go.Proofs.YtebkaajnnjfhjaaDoor
