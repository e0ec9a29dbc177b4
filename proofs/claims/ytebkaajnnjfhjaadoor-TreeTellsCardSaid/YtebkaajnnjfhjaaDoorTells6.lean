/-
  Law 06's TreeTells: walked.
-/
import Derived.Test.YtebkaajnnjfhjaaDoorRprint
import Derived.Test.YtebkaajnnjfhjaaDoorAwk6
import Derived.Test.YtebkaajnnjfhjaaDoorDepth
import Derived.Test.YtebkaajnnjfhjaaDoorPlaces
namespace Go.Proofs.YtebkaajnnjfhjaaDoor
set_option linter.unusedVariables false
set_option linter.unusedSimpArgs false
open Go.RowKit Go.Proofs.YtebkaajnnjfhjaaDoorW.PrintWords
open Tr (Nd Pt)

set_option maxRecDepth 100000 in
set_option maxHeartbeats 12800000 in
theorem tells_any {A A' : Option Addr} {ns : List Nd} {ps : List Pt} (c c' : Nat) (hw : Tr.Words ns) (w : World) (hT : TreeAt w A A' ns ps) (hL : Laid w) :
    Calls Tryd.prog 4 #[.agg #[.slice A ns.length c, .slice A' ps.length c']] w fun e w' => e = .returned (.bool true) ∧ Below w.heap.size w w' := by
  have hB0 : Below w.heap.size w (w.alloc (.cells #[.slice A ns.length c, .slice A' ps.length c'] 33)) := by (repeat (first | exact Below.refl _ _ | assumption | refine Below.drew ?_ | refine Below.alloc ?_ (by first | exact Nat.le_refl _ | (simp; done) | (simp; omega) | omega) _ | refine Below.setCell ?_ (by first | exact Nat.le_refl _ | (simp; done) | (simp; omega) | omega) _))
  have HC : Hid (∀ z, Below (w.alloc (.cells #[.slice A ns.length c, .slice A' ps.length c'] 33)).heap.size (w.alloc (.cells #[.slice A ns.length c, .slice A' ps.length c'] 33)) z → z.cell? ⟨w.heap.size, 0, none⟩ = some (.slice A ns.length c) ∧ z.cell? ⟨w.heap.size, 1, none⟩ = some (.slice A' ps.length c')) := by
    refine Lib.hid fun z hz => ?_
    have k1 := blk_below (blk_new w (.cells #[.slice A ns.length c, .slice A' ps.length c'] 33)) hz
    exact ⟨(blk_cell k1 0).trans rfl, (blk_cell k1 1).trans rfl⟩
  have HTL : Hid (∀ z, Below (w.alloc (.cells #[.slice A ns.length c, .slice A' ps.length c'] 33)).heap.size (w.alloc (.cells #[.slice A ns.length c, .slice A' ps.length c'] 33)) z → Below w.heap.size w z ∧ TreeAt z A A' ns ps ∧ Laid z) := Lib.hid fun z hz =>
    have hb' := bthen hB0 hz
    ⟨hb', hT.below hb', hL.below hb'⟩
  have HG := Lib.hid (fun w1 (h : TreeAt w1 A A' ns ps) => great_any c c' h)
  have HR := Lib.hid (fun w1 (h : TreeAt w1 A A' ns ps) => right_any c c' h)
  have HRR := Lib.hid (fun w1 (h : TreeAt w1 A A' ns ps) => rright_any c c' h)
  have HP := Lib.hid (fun w1 (h : TreeAt w1 A A' ns ps) hl => print_any c c' hw w1 h hl)
  have HPP := Lib.hid (fun w1 (h : TreeAt w1 A A' ns ps) => rprint_any c c' hw h)
  have HS := Lib.hid (fun w1 (h : TreeAt w1 A A' ns ps) => places_any c c' h)
  have HSS := Lib.hid (fun w1 (h : TreeAt w1 A A' ns ps) => rplaces_any c c' h)
  have HD := Lib.hid (fun w1 (h : TreeAt w1 A A' ns ps) => depth_any c c' h)
  have HDD := Lib.hid (fun w1 (h : TreeAt w1 A A' ns ps) => rdepth_any c c' h)
  have HA := Lib.hid (fun w1 hl => awake6_any w1 hl)
  have hnl := hT.nlen
  have hpl := hT.plen
  clear hB0 hT hL
  generalize (decide (700 < ns.length) || decide (30 < ps.length)) = g1 at HG
  generalize Tr.right ns ps = r1 at HR HRR
  generalize Tr.print ns ps = l1 at HP HPP
  generalize ((Tr.places ns ps : Nat) : Int) = s1 at HS HSS
  generalize ((Tr.depth ns ps : Nat) : Int) = d1 at HD HDD
  have e1 : (r1 == r1) = true := by simp
  have e2 : (l1 == l1) = true := by simp
  have e3 : (s1 == s1) = true := by simp
  have e4 : (d1 == d1) = true := by simp
  go_enter Tryd.func4, Tryd.ntmps4
  go_wp2_with fail
  generalize (w.alloc (.cells #[.slice A ns.length c, .slice A' ps.length c'] 33)) = W0 at HTL HC ⊢
  refine (HG.out _ (HTL.out _ (Below.refl _ _)).2.1).mono ?_
  rintro e w1 ⟨rfl, HB⟩
  clear HG
  have K1 := HC.out _ HB
  cases g1
  rotate_left
  · go_wp2_with fail
    clear K1
    refine (HA.out _ (HTL.out _ HB).2.2).mono ?_
    rintro e w2 ⟨rfl, B2⟩
    replace HB := bthen HB B2
    go_wp2_with fail
    go_ret
    exact ⟨rfl, (HTL.out _ HB).1⟩
  go_wp2_with fail
  go_region_held3 (fun z => Below W0.heap.size W0 z ∧ z.cell? ⟨w.heap.size, 0, none⟩ = some (.slice A ns.length c) ∧ z.cell? ⟨w.heap.size, 1, none⟩ = some (.slice A' ps.length c')) ((refine ⟨?_, HC.out _ ?_⟩ <;> (repeat (first | (with_reducible exact HB) | (with_reducible refine Below.drew ?_) | (with_reducible refine bl_drewN ?_ _) | ((with_reducible apply bthen); rotate_left; assumption))))) ((first | (go_at_call 12; (with_reducible refine (HR.out _ ?_).mono ?_); (focus (refine (HTL.out _ ?_).2.1; (repeat (first | (with_reducible exact HB) | (with_reducible refine Below.drew ?_) | (with_reducible refine bl_drewN ?_ _) | ((with_reducible apply bthen); rotate_left; assumption))); done)); rintro e w3 ⟨rfl, B3⟩) | (go_at_call 15; (with_reducible refine (HRR.out _ ?_).mono ?_); (focus (refine (HTL.out _ ?_).2.1; (repeat (first | (with_reducible exact HB) | (with_reducible refine Below.drew ?_) | (with_reducible refine bl_drewN ?_ _) | ((with_reducible apply bthen); rotate_left; assumption))); done)); rintro e w4 ⟨rfl, B4⟩) | (go_at_call 9; (with_reducible refine (HP.out _ ?_ ?_).mono ?_); (focus (refine (HTL.out _ ?_).2.1; (repeat (first | (with_reducible exact HB) | (with_reducible refine Below.drew ?_) | (with_reducible refine bl_drewN ?_ _) | ((with_reducible apply bthen); rotate_left; assumption))); done)); (focus (refine (HTL.out _ ?_).2.2; (repeat (first | (with_reducible exact HB) | (with_reducible refine Below.drew ?_) | (with_reducible refine bl_drewN ?_ _) | ((with_reducible apply bthen); rotate_left; assumption))); done)); rintro e w5 ⟨rfl, B5⟩) | (go_at_call 16; (with_reducible refine (HPP.out _ ?_).mono ?_); (focus (refine (HTL.out _ ?_).2.1; (repeat (first | (with_reducible exact HB) | (with_reducible refine Below.drew ?_) | (with_reducible refine bl_drewN ?_ _) | ((with_reducible apply bthen); rotate_left; assumption))); done)); rintro e w6 ⟨rfl, B6⟩) | (go_at_call 10; (with_reducible refine (HS.out _ ?_).mono ?_); (focus (refine (HTL.out _ ?_).2.1; (repeat (first | (with_reducible exact HB) | (with_reducible refine Below.drew ?_) | (with_reducible refine bl_drewN ?_ _) | ((with_reducible apply bthen); rotate_left; assumption))); done)); rintro e w7 ⟨rfl, B7⟩) | (go_at_call 17; (with_reducible refine (HSS.out _ ?_).mono ?_); (focus (refine (HTL.out _ ?_).2.1; (repeat (first | (with_reducible exact HB) | (with_reducible refine Below.drew ?_) | (with_reducible refine bl_drewN ?_ _) | ((with_reducible apply bthen); rotate_left; assumption))); done)); rintro e w8 ⟨rfl, B8⟩) | (go_at_call 11; (with_reducible refine (HD.out _ ?_).mono ?_); (focus (refine (HTL.out _ ?_).2.1; (repeat (first | (with_reducible exact HB) | (with_reducible refine Below.drew ?_) | (with_reducible refine bl_drewN ?_ _) | ((with_reducible apply bthen); rotate_left; assumption))); done)); rintro e w9 ⟨rfl, B9⟩) | (go_at_call 18; (with_reducible refine (HDD.out _ ?_).mono ?_); (focus (refine (HTL.out _ ?_).2.1; (repeat (first | (with_reducible exact HB) | (with_reducible refine Below.drew ?_) | (with_reducible refine bl_drewN ?_ _) | ((with_reducible apply bthen); rotate_left; assumption))); done)); rintro e w10 ⟨rfl, B10⟩) | (go_at_call 13; (with_reducible refine (HA.out _ ?_).mono ?_); (focus (refine (HTL.out _ ?_).2.2; (repeat (first | (with_reducible exact HB) | (with_reducible refine Below.drew ?_) | (with_reducible refine bl_drewN ?_ _) | ((with_reducible apply bthen); rotate_left; assumption))); done)); rintro e w11 ⟨rfl, B11⟩)))
  all_goals
    go_wp2_with fail
    go_ret
    refine ⟨by first | rfl | simp, (HTL.out _ ?_).1⟩
    (repeat (first | (with_reducible exact HB) | (with_reducible refine Below.drew ?_) | (with_reducible refine bl_drewN ?_ _) | ((with_reducible apply bthen); rotate_left; assumption)))
end Go.Proofs.YtebkaajnnjfhjaaDoor
