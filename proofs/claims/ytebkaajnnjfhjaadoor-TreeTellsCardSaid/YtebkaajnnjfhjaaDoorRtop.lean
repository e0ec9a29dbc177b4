/-
  The document's Depth and Places: walked.
-/
import Derived.Test.YtebkaajnnjfhjaaDoorDeep
namespace Go.Proofs.YtebkaajnnjfhjaaDoor
set_option linter.unusedVariables false
set_option linter.unusedSimpArgs false
open Go.RowKit Go.Proofs.YtebkaajnnjfhjaaDoorW.PrintWords
open Tr (Nd Pt)

theorem maxl_snoc (l : List Nat) (x : Nat) : Tr.maxl (l ++ [x]) = max (Tr.maxl l) x := by
  induction l with
  | nil => show max x 0 = max 0 x; omega
  | cons a l ih =>
    show max a (Tr.maxl (l ++ [x])) = max (max a (Tr.maxl l)) x
    rw [ih]; omega
def totDepth (ns : List Nd) (ps : List Pt) (k : Nat) : Int := (Tr.maxl ((ps.take k).map fun p => Tr.dep (Tr.tr ns p.root.toNat)) : Nat)
theorem totDepth_step (ns : List Nd) (ps : List Pt) (k : Nat) (h : k < ps.length) : totDepth ns ps (k + 1) = max (totDepth ns ps k) (dF ns ps[k].root.toNat) := by
  unfold totDepth dF
  rw [List.take_succ_eq_append_getElem h, List.map_append, List.map_cons, List.map_nil, maxl_snoc]
  omega
theorem totDepth_end {ns : List Nd} {ps : List Pt} (hG : Tr.Good ns ps) (hr : Tr.right ns ps = true) : ((Tr.depth ns ps : Nat) : Int) = totDepth ns ps ps.length := by
  unfold Tr.depth totDepth
  rw [hr, if_pos rfl, Tr.dep_roots hG, List.take_length]
  rfl
theorem totDepth_bd {ns : List Nd} {ps : List Pt} (hG : Tr.Good ns ps) (k : Nat) : 0 ≤ totDepth ns ps k ∧ totDepth ns ps k ≤ 601 := by
  refine ⟨by unfold totDepth; omega, ?_⟩
  unfold totDepth
  have : Tr.maxl ((ps.take k).map fun p => Tr.dep (Tr.tr ns p.root.toNat)) ≤ 601 := Tr.maxl_le fun x hx => by
    obtain ⟨p, hp, rfl⟩ := List.mem_map.1 hx
    have h1 := Tr.dep_le (show Tr.Dn ns from hG.dn) _ p.root.toNat (Nat.lt_succ_self _)
    have h2 := hG.rt p (List.mem_of_mem_take hp)
    have h3 := hG.n2
    omega
  omega
def totPlaces (ns : List Nd) (ps : List Pt) (k : Nat) : Int := (Tr.plcs 0 ((ps.take k).map fun p => (p.no, Tr.tr ns p.root.toNat)) : Nat)
theorem totPlaces_step (ns : List Nd) (ps : List Pt) (k : Nat) (h : k < ps.length) : totPlaces ns ps (k + 1) = min (totPlaces ns ps k + pF ns ps[k].root.toNat) 1073741824 := by
  unfold totPlaces pF
  rw [List.take_succ_eq_append_getElem h, List.map_append, List.map_cons, List.map_nil, plcs_snoc]
  unfold Tr.cap
  simp only
  omega
theorem totPlaces_end {ns : List Nd} {ps : List Pt} (hG : Tr.Good ns ps) (hr : Tr.right ns ps = true) : ((Tr.places ns ps : Nat) : Int) = totPlaces ns ps ps.length := by
  unfold Tr.places totPlaces
  rw [hr, if_pos rfl, List.take_length]
  rfl
theorem totPlaces_bd {ns : List Nd} {ps : List Pt} (hG : Tr.Good ns ps) (k : Nat) : 0 ≤ totPlaces ns ps k ∧ totPlaces ns ps k ≤ 1073741824 := by
  refine ⟨by unfold totPlaces; omega, ?_⟩
  unfold totPlaces
  have := Tr.plcs_le ((ps.take k).map fun p => (p.no, Tr.tr ns p.root.toNat)) 0 (by decide)
  unfold Tr.cap at this
  omega
set_option maxRecDepth 100000 in
set_option maxHeartbeats 6400000 in
theorem rdepth_any {w : World} {A A' : Option Addr} {ns : List Nd} {ps : List Pt} (c c' : Nat) (hT : TreeAt w A A' ns ps) :
    Calls Tryd.prog 18 #[.agg #[.slice A ns.length c, .slice A' ps.length c']] w fun e w' => e = .returned (.int .i64 (Tr.depth ns ps)) ∧ Below w.heap.size w w' := by
  have hB0 : Below w.heap.size w (w.alloc (.cells #[.slice A ns.length c, .slice A' ps.length c'] 33)) := by (repeat (first | exact Below.refl _ _ | assumption | refine Below.drew ?_ | refine Below.alloc ?_ (by first | exact Nat.le_refl _ | (simp; done) | (simp; omega) | omega) _ | refine Below.setCell ?_ (by first | exact Nat.le_refl _ | (simp; done) | (simp; omega) | omega) _))
  have HR := Lib.hid (fun w1 (h : TreeAt w1 A A' ns ps) => rright_any c c' h)
  have HTL : Hid (∀ z, Below (w.alloc (.cells #[.slice A ns.length c, .slice A' ps.length c'] 33)).heap.size (w.alloc (.cells #[.slice A ns.length c, .slice A' ps.length c'] 33)) z → TreeAt z A A' ns ps ∧ Below w.heap.size w z ∧ z.cell? ⟨w.heap.size, 0, none⟩ = some (.slice A ns.length c) ∧ z.cell? ⟨w.heap.size, 1, none⟩ = some (.slice A' ps.length c')) := by
    refine Lib.hid fun z hz => ?_
    have k1 := blk_below (blk_new w (.cells #[.slice A ns.length c, .slice A' ps.length c'] 33)) hz
    exact ⟨hT.below (bthen hB0 hz), bthen hB0 hz, (blk_cell k1 0).trans rfl, (blk_cell k1 1).trans rfl⟩
  have hpl := hT.plen
  clear hT hB0
  cases hr : Tr.right ns ps
  · have HP : Hid (Tr.depth ns ps = 0) := Lib.hid (by unfold Tr.depth; rw [hr]; rfl)
    rw [hr] at HR
    clear hr
    go_enter Tryd.func18, Tryd.ntmps18
    go_wp2_with fail
    refine (HR.out _ (HTL.out _ (Below.refl _ _)).1).mono ?_
    rintro e w1 ⟨rfl, B1⟩
    have HB := Lib.hid (HTL.out _ B1).2.1
    clear B1
    go_wp2_with fail
    go_ret
    exact ⟨by rw [HP.out]; rfl, HB.out⟩
  · have hG := (Tr.right_iff ns ps).1 hr
    have HP : Hid (((Tr.depth ns ps : Nat) : Int) = totDepth ns ps ps.length) := Lib.hid (totDepth_end hG hr)
    have HG := Lib.hid hG
    have hp2 := hG.p2
    have HI := Lib.hid (fun i (hi : i < ns.length) => deep_f A A' ns ps c c' hG (i + 1) i (Nat.lt_succ_self i) hi)
    rw [hr] at HR
    clear hr hG
    go_enter Tryd.func18, Tryd.ntmps18
    go_wp2_with fail
    refine (HR.out _ (HTL.out _ (Below.refl _ _)).1).mono ?_
    rintro e w1 ⟨rfl, B1⟩
    generalize (w.alloc (.cells #[.slice A ns.length c, .slice A' ps.length c'] 33)) = W0 at HTL B1 ⊢
    go_wp2_with fail
    go_loopw [3, 4] (fun dv iv wr => ∃ k : Nat, k ≤ ps.length ∧ dv = .int .i64 (totDepth ns ps k) ∧ iv = .int .i64 k ∧ Below W0.heap.size W0 wr) (fun _ iv _ => ps.length - (RowKit.intOf iv).toNat)
    case atStart => exact ⟨0, by omega, rfl, rfl, B1⟩
    case round =>
      clear B1
      obtain ⟨k, hk, rfl, rfl, HB⟩ := hrel
      have hbd := totDepth_bd HG.out k
      by_cases hlt : k < ps.length
      · have HS := Lib.hid (totDepth_step ns ps k hlt)
        have hrt := HG.out.rt _ (List.getElem_mem hlt)
        obtain ⟨a, ha, _⟩ := (HTL.out _ HB).1.parts k hlt
        subst ha
        obtain ⟨x, hx⟩ := Int.eq_ofNat_of_zero_le hrt.1
        have hxl : x < ns.length := by omega
        have HX := HI.out x hxl
        unfold DeepSaid at HX
        have HX := Lib.hid HX
        rw [hx] at HS
        simp only [Int.toNat_natCast] at HS
        have HC : Hid (∀ z, Below W0.heap.size W0 z → z.cell? ⟨w.heap.size, 0, none⟩ = some (.slice A ns.length c) ∧ z.cell? ⟨w.heap.size, 1, none⟩ = some (.slice (some a) ps.length c') ∧ z.cell? (a.add (k * 2)) = some (.int .i64 x)) := by
          refine Lib.hid fun z hz => ?_
          obtain ⟨q1, q2, q3, q4⟩ := HTL.out z hz
          obtain ⟨a', ea, _, u0, _⟩ := q1.parts k hlt
          cases ea
          rw [hx] at u0
          exact ⟨q3, q4, u0⟩
        have bx := dF_bd (ns := ns) (show Tr.Dn ns from HG.out.dn) x
        have hn2 := HG.out.n2
        obtain ⟨bx1, bx2⟩ := bx
        clear hrt hx
        generalize totDepth ns ps k = t0 at *
        generalize dF ns x = v at *
        have i1 : (k : Int) < ps.length := by omega
        have K1 := HC.out _ HB
        have hcmp : t0 < v ∨ ¬ t0 < v := by omega
        skip
        rcases hcmp with hc | hc
        · have HS2 : Hid (totDepth ns ps (k + 1) = v) := Lib.hid (by rw [HS.out]; omega)
          clear HS
          go_wp2_with fail
          go_region_held3 (fun z => Below W0.heap.size W0 z ∧ z.cell? ⟨w.heap.size, 0, none⟩ = some (.slice A ns.length c) ∧ z.cell? ⟨w.heap.size, 1, none⟩ = some (.slice (some a) ps.length c') ∧ z.cell? (a.add (k * 2)) = some (.int .i64 x)) ((refine ⟨?_, HC.out _ ?_⟩ <;> (repeat (first | (with_reducible exact HB) | (with_reducible refine Below.drew ?_) | (with_reducible refine bl_drewN ?_ _) | ((with_reducible apply bthen); rotate_left; assumption))))) (((go_at_call 39; (with_reducible refine (HX.out _ ?_).mono ?_); (focus (refine (HTL.out _ ?_).1; (repeat (first | (with_reducible exact HB) | (with_reducible refine Below.drew ?_) | (with_reducible refine bl_drewN ?_ _) | ((with_reducible apply bthen); rotate_left; assumption))); done)); rintro e w5 ⟨rfl, B5⟩)))
          all_goals
            go_wp2_with fail
            go_roundw
            case rel =>
              refine ⟨k + 1, by omega, by rw [HS2.out], by go_num, ?_⟩
              (repeat (first | (with_reducible exact HB) | (with_reducible refine Below.drew ?_) | (with_reducible refine bl_drewN ?_ _) | ((with_reducible apply bthen); rotate_left; assumption)))
            case measure => simp [RowKit.intOf]; omega
        · have HS2 : Hid (totDepth ns ps (k + 1) = t0) := Lib.hid (by rw [HS.out]; omega)
          have hd : decide (t0 < v) = false := decide_eq_false hc
          clear HS
          go_wp2_with fail
          go_region_held3 (fun z => Below W0.heap.size W0 z ∧ z.cell? ⟨w.heap.size, 0, none⟩ = some (.slice A ns.length c) ∧ z.cell? ⟨w.heap.size, 1, none⟩ = some (.slice (some a) ps.length c') ∧ z.cell? (a.add (k * 2)) = some (.int .i64 x)) ((refine ⟨?_, HC.out _ ?_⟩ <;> (repeat (first | (with_reducible exact HB) | (with_reducible refine Below.drew ?_) | (with_reducible refine bl_drewN ?_ _) | ((with_reducible apply bthen); rotate_left; assumption))))) (((go_at_call 39; (with_reducible refine (HX.out _ ?_).mono ?_); (focus (refine (HTL.out _ ?_).1; (repeat (first | (with_reducible exact HB) | (with_reducible refine Below.drew ?_) | (with_reducible refine bl_drewN ?_ _) | ((with_reducible apply bthen); rotate_left; assumption))); done)); rintro e w5 ⟨rfl, B5⟩)))
          all_goals
            go_wp2_with fail
            go_roundw
            case rel =>
              refine ⟨k + 1, by omega, by rw [HS2.out], by go_num, ?_⟩
              (repeat (first | (with_reducible exact HB) | (with_reducible refine Below.drew ?_) | (with_reducible refine bl_drewN ?_ _) | ((with_reducible apply bthen); rotate_left; assumption)))
            case measure => simp [RowKit.intOf]; omega
      · obtain ⟨q1, q2, q3, q4⟩ := HTL.out _ HB
        have hke : k = ps.length := by omega
        subst hke
        have HB2 := Lib.hid q2
        clear q1 q2
        go_wp2_with fail
        go_ret
        exact ⟨by rw [HP.out]; rfl, HB2.out⟩
set_option maxRecDepth 100000 in
set_option maxHeartbeats 6400000 in
theorem rplaces_any {w : World} {A A' : Option Addr} {ns : List Nd} {ps : List Pt} (c c' : Nat) (hT : TreeAt w A A' ns ps) :
    Calls Tryd.prog 17 #[.agg #[.slice A ns.length c, .slice A' ps.length c']] w fun e w' => e = .returned (.int .i64 (Tr.places ns ps)) ∧ Below w.heap.size w w' := by
  have hB0 : Below w.heap.size w (w.alloc (.cells #[.slice A ns.length c, .slice A' ps.length c'] 33)) := by (repeat (first | exact Below.refl _ _ | assumption | refine Below.drew ?_ | refine Below.alloc ?_ (by first | exact Nat.le_refl _ | (simp; done) | (simp; omega) | omega) _ | refine Below.setCell ?_ (by first | exact Nat.le_refl _ | (simp; done) | (simp; omega) | omega) _))
  have HR := Lib.hid (fun w1 (h : TreeAt w1 A A' ns ps) => rright_any c c' h)
  have HTL : Hid (∀ z, Below (w.alloc (.cells #[.slice A ns.length c, .slice A' ps.length c'] 33)).heap.size (w.alloc (.cells #[.slice A ns.length c, .slice A' ps.length c'] 33)) z → TreeAt z A A' ns ps ∧ Below w.heap.size w z ∧ z.cell? ⟨w.heap.size, 0, none⟩ = some (.slice A ns.length c) ∧ z.cell? ⟨w.heap.size, 1, none⟩ = some (.slice A' ps.length c')) := by
    refine Lib.hid fun z hz => ?_
    have k1 := blk_below (blk_new w (.cells #[.slice A ns.length c, .slice A' ps.length c'] 33)) hz
    exact ⟨hT.below (bthen hB0 hz), bthen hB0 hz, (blk_cell k1 0).trans rfl, (blk_cell k1 1).trans rfl⟩
  have hpl := hT.plen
  clear hT hB0
  cases hr : Tr.right ns ps
  · have HP : Hid (Tr.places ns ps = 0) := Lib.hid (by unfold Tr.places; rw [hr]; rfl)
    rw [hr] at HR
    clear hr
    go_enter Tryd.func17, Tryd.ntmps17
    go_wp2_with fail
    refine (HR.out _ (HTL.out _ (Below.refl _ _)).1).mono ?_
    rintro e w1 ⟨rfl, B1⟩
    have HB := Lib.hid (HTL.out _ B1).2.1
    clear B1
    go_wp2_with fail
    go_ret
    exact ⟨by rw [HP.out]; rfl, HB.out⟩
  · have hG := (Tr.right_iff ns ps).1 hr
    have HP : Hid (((Tr.places ns ps : Nat) : Int) = totPlaces ns ps ps.length) := Lib.hid (totPlaces_end hG hr)
    have HG := Lib.hid hG
    have hp2 := hG.p2
    have HI := Lib.hid (fun i (hi : i < ns.length) => rplaces_f A A' ns ps c c' hG (i + 1) i (Nat.lt_succ_self i) hi)
    rw [hr] at HR
    clear hr hG
    go_enter Tryd.func17, Tryd.ntmps17
    go_wp2_with fail
    refine (HR.out _ (HTL.out _ (Below.refl _ _)).1).mono ?_
    rintro e w1 ⟨rfl, B1⟩
    generalize (w.alloc (.cells #[.slice A ns.length c, .slice A' ps.length c'] 33)) = W0 at HTL B1 ⊢
    go_wp2_with fail
    go_loopw [3, 4] (fun dv iv wr => ∃ k : Nat, k ≤ ps.length ∧ dv = .int .i64 (totPlaces ns ps k) ∧ iv = .int .i64 k ∧ Below W0.heap.size W0 wr) (fun _ iv _ => ps.length - (RowKit.intOf iv).toNat)
    case atStart => exact ⟨0, by omega, rfl, rfl, B1⟩
    case round =>
      clear B1
      obtain ⟨k, hk, rfl, rfl, HB⟩ := hrel
      have hbd := totPlaces_bd HG.out k
      by_cases hlt : k < ps.length
      · have HS := Lib.hid (totPlaces_step ns ps k hlt)
        have hrt := HG.out.rt _ (List.getElem_mem hlt)
        obtain ⟨a, ha, _⟩ := (HTL.out _ HB).1.parts k hlt
        subst ha
        obtain ⟨x, hx⟩ := Int.eq_ofNat_of_zero_le hrt.1
        have hxl : x < ns.length := by omega
        have HX := HI.out x hxl
        unfold PlacesSaid at HX
        have HX := Lib.hid HX
        rw [hx] at HS
        simp only [Int.toNat_natCast] at HS
        have HC : Hid (∀ z, Below W0.heap.size W0 z → z.cell? ⟨w.heap.size, 0, none⟩ = some (.slice A ns.length c) ∧ z.cell? ⟨w.heap.size, 1, none⟩ = some (.slice (some a) ps.length c') ∧ z.cell? (a.add (k * 2)) = some (.int .i64 x)) := by
          refine Lib.hid fun z hz => ?_
          obtain ⟨q1, q2, q3, q4⟩ := HTL.out z hz
          obtain ⟨a', ea, _, u0, _⟩ := q1.parts k hlt
          cases ea
          rw [hx] at u0
          exact ⟨q3, q4, u0⟩
        have bx := pF_bd ns x
        have hn2 := HG.out.n2
        obtain ⟨bx1, bx2⟩ := bx
        clear hrt hx
        generalize totPlaces ns ps k = t0 at *
        generalize pF ns x = v at *
        have i1 : (k : Int) < ps.length := by omega
        have K1 := HC.out _ HB
        have hcmp : 1073741824 < t0 + v ∨ ¬ 1073741824 < t0 + v := by omega
        have hwr : IntKind.i64.wrap (t0 + v) = t0 + v := IntWalk.i64_in _ (by omega)
        rcases hcmp with hc | hc
        · have HS2 : Hid (totPlaces ns ps (k + 1) = 1073741824) := Lib.hid (by rw [HS.out]; omega)
          clear HS
          go_wp2_with fail
          go_region_held3 (fun z => Below W0.heap.size W0 z ∧ z.cell? ⟨w.heap.size, 0, none⟩ = some (.slice A ns.length c) ∧ z.cell? ⟨w.heap.size, 1, none⟩ = some (.slice (some a) ps.length c') ∧ z.cell? (a.add (k * 2)) = some (.int .i64 x)) ((refine ⟨?_, HC.out _ ?_⟩ <;> (repeat (first | (with_reducible exact HB) | (with_reducible refine Below.drew ?_) | (with_reducible refine bl_drewN ?_ _) | ((with_reducible apply bthen); rotate_left; assumption))))) (((go_at_call 38; (with_reducible refine (HX.out _ ?_).mono ?_); (focus (refine (HTL.out _ ?_).1; (repeat (first | (with_reducible exact HB) | (with_reducible refine Below.drew ?_) | (with_reducible refine bl_drewN ?_ _) | ((with_reducible apply bthen); rotate_left; assumption))); done)); rintro e w5 ⟨rfl, B5⟩)))
          all_goals
            go_wp2_with fail
            go_roundw
            case rel =>
              refine ⟨k + 1, by omega, by rw [HS2.out], by go_num, ?_⟩
              (repeat (first | (with_reducible exact HB) | (with_reducible refine Below.drew ?_) | (with_reducible refine bl_drewN ?_ _) | ((with_reducible apply bthen); rotate_left; assumption)))
            case measure => simp [RowKit.intOf]; omega
        · have HS2 : Hid (totPlaces ns ps (k + 1) = t0 + v) := Lib.hid (by rw [HS.out]; omega)
          have hd : decide (1073741824 < t0 + v) = false := decide_eq_false hc
          clear HS
          go_wp2_with fail
          go_region_held3 (fun z => Below W0.heap.size W0 z ∧ z.cell? ⟨w.heap.size, 0, none⟩ = some (.slice A ns.length c) ∧ z.cell? ⟨w.heap.size, 1, none⟩ = some (.slice (some a) ps.length c') ∧ z.cell? (a.add (k * 2)) = some (.int .i64 x)) ((refine ⟨?_, HC.out _ ?_⟩ <;> (repeat (first | (with_reducible exact HB) | (with_reducible refine Below.drew ?_) | (with_reducible refine bl_drewN ?_ _) | ((with_reducible apply bthen); rotate_left; assumption))))) (((go_at_call 38; (with_reducible refine (HX.out _ ?_).mono ?_); (focus (refine (HTL.out _ ?_).1; (repeat (first | (with_reducible exact HB) | (with_reducible refine Below.drew ?_) | (with_reducible refine bl_drewN ?_ _) | ((with_reducible apply bthen); rotate_left; assumption))); done)); rintro e w5 ⟨rfl, B5⟩)))
          all_goals
            go_wp2_with fail
            go_roundw
            case rel =>
              refine ⟨k + 1, by omega, by rw [HS2.out], by go_num, ?_⟩
              (repeat (first | (with_reducible exact HB) | (with_reducible refine Below.drew ?_) | (with_reducible refine bl_drewN ?_ _) | ((with_reducible apply bthen); rotate_left; assumption)))
            case measure => simp [RowKit.intOf]; omega
      · obtain ⟨q1, q2, q3, q4⟩ := HTL.out _ HB
        have hke : k = ps.length := by omega
        subst hke
        have HB2 := Lib.hid q2
        clear q1 q2
        go_wp2_with fail
        go_ret
        exact ⟨by rw [HP.out]; rfl, HB2.out⟩
end Go.Proofs.YtebkaajnnjfhjaaDoor
