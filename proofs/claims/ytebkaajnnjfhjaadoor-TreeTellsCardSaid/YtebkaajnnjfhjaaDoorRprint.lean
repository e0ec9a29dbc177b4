/-
  The document's Print: walked.
-/
import Derived.Test.YtebkaajnnjfhjaaDoorRnode
import Derived.Test.YtebkaajnnjfhjaaDoorRtop
import Derived.Test.YtebkaajnnjfhjaaDoorPrint
namespace Go.Proofs.YtebkaajnnjfhjaaDoor
set_option linter.unusedVariables false
set_option linter.unusedSimpArgs false
open Go.RowKit Go.Proofs.YtebkaajnnjfhjaaDoorW.PrintWords
open Tr (Nd Pt)

theorem pparts_snoc (l : List (Bool × Tr.T)) (x : Bool × Tr.T) : Tr.pparts (l ++ [x]) = if l = [] then pp x else Tr.pparts l ++ 38 :: pp x := by
  induction l with
  | nil => obtain ⟨n, t⟩ := x; rfl
  | cons a l ih =>
    obtain ⟨n, t⟩ := a
    rw [if_neg (by simp)]
    rcases l with _ | ⟨b, l⟩
    · obtain ⟨n', t'⟩ := x
      show (if n then ([33] : List UInt8) else []) ++ (Tr.pn t ++ 38 :: Tr.pparts [(n', t')]) = _
      simp [Tr.pparts, pp]
    · rw [if_neg (by simp)] at ih
      show (if n then ([33] : List UInt8) else []) ++ (Tr.pn t ++ 38 :: Tr.pparts (b :: l ++ [x])) = _
      rw [ih]
      show _ = ((if n then ([33] : List UInt8) else []) ++ (Tr.pn t ++ 38 :: Tr.pparts (b :: l))) ++ 38 :: pp x
      simp
/-- What is printed of the first parts. -/
def outp (ns : List Nd) (ps : List Pt) (k : Nat) : List UInt8 := Tr.pparts ((ps.take k).map (ptr ns))
theorem outp_step (ns : List Nd) (ps : List Pt) (k : Nat) (h : k < ps.length) : outp ns ps (k + 1) = if k = 0 then pp (ptr ns ps[k]) else outp ns ps k ++ 38 :: pp (ptr ns ps[k]) := by
  unfold outp
  rw [List.take_succ_eq_append_getElem h, List.map_append, List.map_cons, List.map_nil, pparts_snoc]
  rcases Nat.eq_zero_or_pos k with h0 | h0
  · subst h0; simp
  · rw [if_neg, if_neg (by omega)]
    intro e
    have := congrArg List.length e
    rw [List.length_map, List.length_take, List.length_nil] at this
    omega
theorem outp_len {ns : List Nd} {ps : List Pt} (hG : Tr.Good ns ps) (k : Nat) : (outp ns ps k).length ≤ 28000000 := by
  have h1 := join_len ((ps.take k).map (ptr ns)) (fun x hx => by
    obtain ⟨p, hp, rfl⟩ := List.mem_map.1 hx
    exact pp_len hG (List.mem_of_mem_take hp))
  have h2 := hG.p2
  rw [List.length_map, List.length_take] at h1
  unfold outp
  omega
theorem outp_end {ns : List Nd} {ps : List Pt} (hr : Tr.right ns ps = true) : Tr.print ns ps = outp ns ps ps.length := by
  unfold Tr.print outp
  rw [hr, if_pos rfl, List.take_length]
  rfl
set_option maxRecDepth 100000 in
set_option maxHeartbeats 12800000 in
theorem rprint_any {w : World} {A A' : Option Addr} {ns : List Nd} {ps : List Pt} (c c' : Nat) (hw : Tr.Words ns) (hT : TreeAt w A A' ns ps) :
    Calls Tryd.prog 16 #[.agg #[.slice A ns.length c, .slice A' ps.length c']] w fun e w' => e = .returned (.string ⟨(Tr.print ns ps).toArray⟩) ∧ Below w.heap.size w w' := by
  have hB0 : Below w.heap.size w (w.alloc (.cells #[.slice A ns.length c, .slice A' ps.length c'] 33)) := by (repeat (first | exact Below.refl _ _ | assumption | refine Below.drew ?_ | refine Below.alloc ?_ (by first | exact Nat.le_refl _ | (simp; done) | (simp; omega) | omega) _ | refine Below.setCell ?_ (by first | exact Nat.le_refl _ | (simp; done) | (simp; omega) | omega) _))
  have HR := Lib.hid (fun w1 (h : TreeAt w1 A A' ns ps) => rright_any c c' h)
  have HTL : Hid (∀ z, Below (w.alloc (.cells #[.slice A ns.length c, .slice A' ps.length c'] 33)).heap.size (w.alloc (.cells #[.slice A ns.length c, .slice A' ps.length c'] 33)) z → TreeAt z A A' ns ps ∧ Below w.heap.size w z ∧ z.cell? ⟨w.heap.size, 0, none⟩ = some (.slice A ns.length c) ∧ z.cell? ⟨w.heap.size, 1, none⟩ = some (.slice A' ps.length c')) := by
    refine Lib.hid fun z hz => ?_
    have k1 := blk_below (blk_new w (.cells #[.slice A ns.length c, .slice A' ps.length c'] 33)) hz
    exact ⟨hT.below (bthen hB0 hz), bthen hB0 hz, (blk_cell k1 0).trans rfl, (blk_cell k1 1).trans rfl⟩
  have hpl := hT.plen
  clear hT hB0
  cases hr : Tr.right ns ps
  · have HP : Hid (Tr.print ns ps = []) := Lib.hid (by unfold Tr.print; rw [hr]; rfl)
    rw [hr] at HR
    clear hr
    go_enter Tryd.func16, Tryd.ntmps16
    go_wp2_with fail
    refine (HR.out _ (HTL.out _ (Below.refl _ _)).1).mono ?_
    rintro e w1 ⟨rfl, B1⟩
    have HB := Lib.hid (HTL.out _ B1).2.1
    clear B1
    go_wp2_with fail
    go_ret
    exact ⟨by rw [HP.out]; rfl, HB.out⟩
  · have hG := (Tr.right_iff ns ps).1 hr
    have HP : Hid (Tr.print ns ps = outp ns ps ps.length) := Lib.hid (outp_end hr)
    have HG := Lib.hid hG
    have hp2 := hG.p2
    have HI := Lib.hid (fun i (hi : i < ns.length) => rnode_f A A' ns ps c c' hG hw (i + 1) i (Nat.lt_succ_self i) hi)
    rw [hr] at HR
    clear hr hG
    go_enter Tryd.func16, Tryd.ntmps16
    go_wp2_with fail
    refine (HR.out _ (HTL.out _ (Below.refl _ _)).1).mono ?_
    rintro e w1 ⟨rfl, B1⟩
    generalize (w.alloc (.cells #[.slice A ns.length c, .slice A' ps.length c'] 33)) = W0 at HTL B1 ⊢
    go_wp2_with fail
    go_loopw [3, 4] (fun dv iv wr => ∃ k : Nat, k ≤ ps.length ∧ dv = .string ⟨(outp ns ps k).toArray⟩ ∧ iv = .int .i64 k ∧ Below W0.heap.size W0 wr) (fun _ iv _ => ps.length - (RowKit.intOf iv).toNat)
    case atStart => exact ⟨0, by omega, rfl, rfl, B1⟩
    case round =>
      clear B1
      obtain ⟨k, hk, rfl, rfl, HB⟩ := hrel
      have hbd := outp_len HG.out k
      by_cases hlt : k < ps.length
      · have HS := Lib.hid (outp_step ns ps k hlt)
        have hrt := HG.out.rt _ (List.getElem_mem hlt)
        obtain ⟨a, ha, -⟩ := (HTL.out _ HB).1.parts k hlt
        subst ha
        obtain ⟨x, hx⟩ := Int.eq_ofNat_of_zero_le hrt.1
        have hxl : x < ns.length := by omega
        have HX := HI.out x hxl
        unfold RNodeSaid at HX
        have HX := Lib.hid HX
        unfold ptr pp at HS
        have l1 := Tr.pn_short HG.out hxl
        rw [hx] at HS
        simp only [Int.toNat_natCast] at HS
        generalize hno : ps[k].no = no at HS
        have HC : Hid (∀ z, Below W0.heap.size W0 z → z.cell? ⟨w.heap.size, 0, none⟩ = some (.slice A ns.length c) ∧ z.cell? ⟨w.heap.size, 1, none⟩ = some (.slice (some a) ps.length c') ∧ z.cell? (a.add (k * 2)) = some (.int .i64 x) ∧ z.cell? ⟨(a.add (k * 2)).block, (a.add (k * 2)).off + 1, none⟩ = some (.bool no)) := by
          refine Lib.hid fun z hz => ?_
          obtain ⟨q1, q2, q3, q4⟩ := HTL.out z hz
          obtain ⟨a', ea, _, u0, u1⟩ := q1.parts k hlt
          cases ea
          rw [hx] at u0
          rw [hno] at u1
          exact ⟨q3, q4, u0, u1⟩
        clear hrt hx hno
        have HTA : Hid (∀ z, Below W0.heap.size W0 z → TreeAt z A (some a) ns ps) := Lib.hid fun z hz => (HTL.out z hz).1
        generalize Tr.pn (Tr.tr ns x) = px at HS HX l1
        have i1 : (k : Int) < ps.length := by omega
        have K1 := HC.out _ HB
        have z0 : ¬ 9223372036854775807 < (outp ns ps k).length + px.length := by omega
        have z1 : ¬ 9223372036854775807 < (outp ns ps k).length + 1 := by omega
        have z2 : ¬ 9223372036854775807 < (outp ns ps k).length + 1 + 1 := by omega
        have z3 : ¬ 9223372036854775807 < (outp ns ps k).length + 1 + px.length := by omega
        have z4 : ¬ 9223372036854775807 < (outp ns ps k).length + (1 + 1) + px.length := by omega
        have z5 : ¬ 9223372036854775807 < (outp ns ps k).length + 1 + 1 + px.length := by omega
        have z6 : ¬ 9223372036854775807 < (outp ns ps k).length + 2 + px.length := by omega
        have hT0 : Hid (k = 0 → outp ns ps k = []) := Lib.hid (by rintro rfl; rfl)
        generalize outp ns ps k = t0 at *
        have hdz : (decide ((0 : Int) < (k : Int)) = false ∧ k = 0) ∨ (decide ((0 : Int) < (k : Int)) = true ∧ ¬ k = 0) := by
          rcases Nat.eq_zero_or_pos k with h | h
          · exact Or.inl ⟨decide_eq_false (by omega), h⟩
          · exact Or.inr ⟨decide_eq_true (by omega), by omega⟩
        rcases hdz with ⟨dz, hk0⟩ | ⟨dz, hk0⟩
        · rw [if_pos hk0] at HS
          have HT0 := Lib.hid (hT0.out hk0)
          have dz2 : (0 < k) = False := eq_false (by omega)
          clear hk0 hT0
          cases no
          all_goals
            go_wp2_with fail
            go_region_held3 (fun z => Below W0.heap.size W0 z ∧ z.cell? ⟨w.heap.size, 0, none⟩ = some (.slice A ns.length c) ∧ z.cell? ⟨w.heap.size, 1, none⟩ = some (.slice (some a) ps.length c') ∧ z.cell? (a.add (k * 2)) = some (.int .i64 x)) ((refine ⟨?_, (HC.out _ ?_).1, (HC.out _ ?_).2.1, (HC.out _ ?_).2.2.1⟩ <;> (repeat (first | (with_reducible exact HB) | (with_reducible refine Below.drew ?_) | (with_reducible refine bl_drewN ?_ _) | ((with_reducible apply bthen); rotate_left; assumption))))) (((go_at_call 37; (with_reducible refine (HX.out _ ?_).mono ?_); (focus (refine (HTA.out _ ?_); (repeat (first | (with_reducible exact HB) | (with_reducible refine Below.drew ?_) | (with_reducible refine bl_drewN ?_ _) | ((with_reducible apply bthen); rotate_left; assumption))); done)); rintro e w3 ⟨rfl, B3⟩)))
          all_goals
            go_wp2_with fail
            go_roundw
            case rel =>
              refine ⟨k + 1, by omega, by rw [HS.out, HT0.out]; rfl, by go_num, ?_⟩
              (repeat (first | (with_reducible exact HB) | (with_reducible refine Below.drew ?_) | (with_reducible refine bl_drewN ?_ _) | ((with_reducible apply bthen); rotate_left; assumption)))
            case measure => simp [RowKit.intOf]; omega
        · rw [if_neg hk0] at HS
          have dz2 : (0 < k) = True := eq_true (by omega)
          clear hk0 hT0
          cases no
          all_goals
            go_wp2_with fail
            go_region_held3 (fun z => Below W0.heap.size W0 z ∧ z.cell? ⟨w.heap.size, 0, none⟩ = some (.slice A ns.length c) ∧ z.cell? ⟨w.heap.size, 1, none⟩ = some (.slice (some a) ps.length c') ∧ z.cell? (a.add (k * 2)) = some (.int .i64 x)) ((refine ⟨?_, (HC.out _ ?_).1, (HC.out _ ?_).2.1, (HC.out _ ?_).2.2.1⟩ <;> (repeat (first | (with_reducible exact HB) | (with_reducible refine Below.drew ?_) | (with_reducible refine bl_drewN ?_ _) | ((with_reducible apply bthen); rotate_left; assumption))))) (((go_at_call 37; (with_reducible refine (HX.out _ ?_).mono ?_); (focus (refine (HTA.out _ ?_); (repeat (first | (with_reducible exact HB) | (with_reducible refine Below.drew ?_) | (with_reducible refine bl_drewN ?_ _) | ((with_reducible apply bthen); rotate_left; assumption))); done)); rintro e w3 ⟨rfl, B3⟩)))
          all_goals
            go_wp2_with fail
            go_roundw
            case rel =>
              refine ⟨k + 1, by omega, by rw [HS.out]; simp, by go_num, ?_⟩
              (repeat (first | (with_reducible exact HB) | (with_reducible refine Below.drew ?_) | (with_reducible refine bl_drewN ?_ _) | ((with_reducible apply bthen); rotate_left; assumption)))
            case measure => simp [RowKit.intOf]; omega
      · obtain ⟨q1, q2, q3, q4⟩ := HTL.out _ HB
        have hke : k = ps.length := by omega
        subst hke
        have HB2 := Lib.hid q2
        clear q1 q2
        go_wp2_with fail
        go_ret
        exact ⟨ret_str (by rw [HP.out]), HB2.out⟩
end Go.Proofs.YtebkaajnnjfhjaaDoor
