/-
  Law 06's TreeTwo: walked.
-/
import Derived.Test.YtebkaajnnjfhjaaDoorLike
namespace Go.Proofs.YtebkaajnnjfhjaaDoor
set_option linter.unusedVariables false
set_option linter.unusedSimpArgs false
open Go.RowKit Go.Proofs.YtebkaajnnjfhjaaDoorW.PrintWords
open Tr (Nd Pt)

/-- Alike up to a part. -/
def alk (ns ms : List Nd) (ps qs : List Pt) (k : Nat) : Bool := decide (ps.length = qs.length) && ((List.zip ps qs).take k).all fun x => x.1.no == x.2.no && decide (Tr.tr ns x.1.root.toNat = Tr.tr ms x.2.root.toNat)
theorem alk_end (ns ms : List Nd) (ps qs : List Pt) : alk ns ms ps qs ps.length = Tr.likes ns ms ps qs := by
  unfold alk Tr.likes
  rw [List.take_of_length_le (by rw [List.length_zip]; omega)]
theorem alk_false {ns ms : List Nd} {ps qs : List Pt} {k : Nat} (h : alk ns ms ps qs k = false) : Tr.likes ns ms ps qs = false := by
  cases hl : Tr.likes ns ms ps qs with
  | false => rfl
  | true =>
    unfold Tr.likes at hl
    rw [Bool.and_eq_true, List.all_eq_true] at hl
    have : alk ns ms ps qs k = true := by
      unfold alk
      rw [Bool.and_eq_true, List.all_eq_true]
      exact ⟨hl.1, fun x hx => hl.2 x (List.mem_of_mem_take hx)⟩
    rw [this] at h
    exact h
theorem alk_len {ns ms : List Nd} {ps qs : List Pt} {k : Nat} (h : alk ns ms ps qs k = true) : ps.length = qs.length := by
  unfold alk at h
  rw [Bool.and_eq_true, decide_eq_true_iff] at h
  exact h.1
theorem alk_step {ns ms : List Nd} {ps qs : List Pt} {k : Nat} (h : alk ns ms ps qs k = true) (h1 : k < ps.length) (h2 : k < qs.length) : alk ns ms ps qs (k + 1) = (ps[k].no == qs[k].no && decide (Tr.tr ns ps[k].root.toNat = Tr.tr ms qs[k].root.toNat)) := by
  have hz : k < (List.zip ps qs).length := by rw [List.length_zip]; omega
  unfold alk at h ⊢
  rw [Bool.and_eq_true] at h
  rw [h.1, Bool.true_and, List.take_add_one, List.getElem?_eq_getElem hz, List.all_append, h.2, Bool.true_and]
  simp
theorem alk_zero (ns ms : List Nd) (ps qs : List Pt) : alk ns ms ps qs 0 = decide (ps.length = qs.length) := by unfold alk; simp
theorem two_drewN {B : Nat} {w w' : World} {n : Nat} (h : Below B w w') : Below B w (w'.drewN n) := bl_drewN h n
theorem two_boxes (w : World) (v0 v1 v2 v3 : Value) (t : TypeId) {z : World} (hz : Below ((w.alloc (.cells #[v0, v1] t)).alloc (.cells #[v2, v3] t)).heap.size ((w.alloc (.cells #[v0, v1] t)).alloc (.cells #[v2, v3] t)) z) :
    z.cell? ⟨w.heap.size, 0, none⟩ = some v0 ∧ z.cell? ⟨w.heap.size, 1, none⟩ = some v1 ∧ z.cell? ⟨w.heap.size + 1, 0, none⟩ = some v2 ∧ z.cell? ⟨w.heap.size + 1, 1, none⟩ = some v3 := by
  have hs : ((w.alloc (.cells #[v0, v1] t)).alloc (.cells #[v2, v3] t)).heap.size = w.heap.size + 2 := by simp
  refine ⟨(hz.cell (p := ⟨w.heap.size, 0, none⟩) (by rw [hs]; show w.heap.size < _; omega)).trans ?_, (hz.cell (p := ⟨w.heap.size, 1, none⟩) (by rw [hs]; show w.heap.size < _; omega)).trans ?_, (hz.cell (p := ⟨w.heap.size + 1, 0, none⟩) (by rw [hs]; show w.heap.size + 1 < _; omega)).trans ?_, (hz.cell (p := ⟨w.heap.size + 1, 1, none⟩) (by rw [hs]; show w.heap.size + 1 < _; omega)).trans ?_⟩
  all_goals (first | (simp; done) | (go_simp; done) | (simp [World.cell?, Array.getElem?_push]; done))
set_option maxRecDepth 100000 in
set_option maxHeartbeats 6400000 in
theorem two_any {A A' B B' : Option Addr} {ns ms : List Nd} {ps qs : List Pt} (c c' : Nat) (hw : Tr.Words ns) (d d' : Nat) (gw : Tr.Words ms) (w : World) (hS : TreeAt w A A' ns ps) (hT : TreeAt w B B' ms qs) (hL : Laid w) :
    Calls Tryd.prog 5 #[.agg #[.slice A ns.length c, .slice A' ps.length c'], .agg #[.slice B ms.length d, .slice B' qs.length d']] w fun e w' => e = .returned (.bool true) ∧ Below w.heap.size w w' := by
  have hB0 := boxes_below w (.cells #[.slice A ns.length c, .slice A' ps.length c'] 33) (.cells #[.slice B ms.length d, .slice B' qs.length d'] 33)
  have HC : Hid (∀ z, Below ((w.alloc (.cells #[.slice A ns.length c, .slice A' ps.length c'] 33)).alloc (.cells #[.slice B ms.length d, .slice B' qs.length d'] 33)).heap.size ((w.alloc (.cells #[.slice A ns.length c, .slice A' ps.length c'] 33)).alloc (.cells #[.slice B ms.length d, .slice B' qs.length d'] 33)) z → z.cell? ⟨w.heap.size, 0, none⟩ = some (.slice A ns.length c) ∧ z.cell? ⟨w.heap.size, 1, none⟩ = some (.slice A' ps.length c') ∧ z.cell? ⟨w.heap.size + 1, 0, none⟩ = some (.slice B ms.length d) ∧ z.cell? ⟨w.heap.size + 1, 1, none⟩ = some (.slice B' qs.length d')) := by
    exact Lib.hid fun z hz => two_boxes w _ _ _ _ _ hz
  have HTL : Hid (∀ w1, Below ((w.alloc (.cells #[.slice A ns.length c, .slice A' ps.length c'] 33)).alloc (.cells #[.slice B ms.length d, .slice B' qs.length d'] 33)).heap.size ((w.alloc (.cells #[.slice A ns.length c, .slice A' ps.length c'] 33)).alloc (.cells #[.slice B ms.length d, .slice B' qs.length d'] 33)) w1 → Below w.heap.size w w1 ∧ TreeAt w1 A A' ns ps ∧ TreeAt w1 B B' ms qs ∧ Laid w1) := Lib.hid fun w1 hb =>
    have hb' := bthen hB0 hb
    ⟨hb', hS.below hb', hT.below hb', hL.below hb'⟩
  have HG1 := Lib.hid (fun w1 (h : TreeAt w1 A A' ns ps) => great_any c c' h)
  have HG2 := Lib.hid (fun w1 (h : TreeAt w1 B B' ms qs) => great_any d d' h)
  have HR1 := Lib.hid (fun w1 (h : TreeAt w1 A A' ns ps) => right_any c c' h)
  have HR2 := Lib.hid (fun w1 (h : TreeAt w1 B B' ms qs) => right_any d d' h)
  have HA := Lib.hid (fun w1 hl => awake6_any w1 hl)
  have hnl := hS.nlen
  have hml := hT.nlen
  have hpl := hS.plen
  have hql := hT.plen
  have HB00 := Lib.hid (Below.refl ((w.alloc (.cells #[.slice A ns.length c, .slice A' ps.length c'] 33)).alloc (.cells #[.slice B ms.length d, .slice B' qs.length d'] 33)).heap.size ((w.alloc (.cells #[.slice A ns.length c, .slice A' ps.length c'] 33)).alloc (.cells #[.slice B ms.length d, .slice B' qs.length d'] 33)))
  have HIF : Hid (Tr.right ns ps = true → Tr.right ms qs = true → Tr.Good ns ps ∧ Tr.Good ms qs ∧ (Tr.print ns ps = Tr.print ms qs ↔ Tr.likes ns ms ps qs = true)) := Lib.hid fun h1 h2 => ⟨(Tr.right_iff ns ps).1 h1, (Tr.right_iff ms qs).1 h2, (Tr.two ((Tr.right_iff ns ps).1 h1) ((Tr.right_iff ms qs).1 h2) hw gw).trans (Tr.likes_iff ns ms ps qs).symm⟩
  have HP1 := Lib.hid (fun w1 (h : TreeAt w1 A A' ns ps) hl => print_any c c' hw w1 h hl)
  have HP2 := Lib.hid (fun w1 (h : TreeAt w1 B B' ms qs) hl => print_any d d' gw w1 h hl)
  clear hB0 hS hT hL
  generalize (decide (700 < ns.length) || decide (30 < ps.length)) = g1 at HG1
  generalize (decide (700 < ms.length) || decide (30 < qs.length)) = g2 at HG2
  generalize Tr.right ns ps = r1 at HR1 HIF
  generalize Tr.right ms qs = r2 at HR2 HIF
  go_enter Tryd.func5, Tryd.ntmps5
  go_wp2_with fail
  generalize (w.alloc (.cells #[.slice A ns.length c, .slice A' ps.length c'] 33)).alloc (.cells #[.slice B ms.length d, .slice B' qs.length d'] 33) = W0 at HC HTL HB00 ⊢
  refine (HG1.out _ (HTL.out _ HB00.out).2.1).mono ?_
  rintro e w1 ⟨rfl, B1⟩
  have HB := bthen HB00.out B1
  clear B1 HG1 HB00
  have K1 := HC.out _ HB
  cases g1
  rotate_left
  · go_wp2_with fail
    clear K1
    refine (HA.out _ (HTL.out _ HB).2.2.2).mono ?_
    rintro e w2 ⟨rfl, B2⟩
    replace HB := bthen HB B2
    go_wp2_with fail
    go_ret
    exact ⟨rfl, (HTL.out _ HB).1⟩
  go_wp2_with fail
  clear K1
  refine (HG2.out _ (HTL.out _ HB).2.2.1).mono ?_
  rintro e w2 ⟨rfl, B2⟩
  replace HB := bthen HB B2
  clear B2 HG2
  have K1 := HC.out _ HB
  cases g2
  rotate_left
  · go_wp2_with fail
    clear K1
    refine (HA.out _ (HTL.out _ HB).2.2.2).mono ?_
    rintro e w3 ⟨rfl, B3⟩
    replace HB := bthen HB B3
    go_wp2_with fail
    go_ret
    exact ⟨rfl, (HTL.out _ HB).1⟩
  go_wp2_with fail
  clear K1
  refine (HR1.out _ (HTL.out _ HB).2.1).mono ?_
  rintro e w3 ⟨rfl, B3⟩
  replace HB := bthen HB B3
  clear B3 HR1
  have K1 := HC.out _ HB
  cases r1
  · go_wp2_with fail
    clear K1
    refine (HA.out _ (HTL.out _ HB).2.2.2).mono ?_
    rintro e w4 ⟨rfl, B4⟩
    replace HB := bthen HB B4
    go_wp2_with fail
    go_ret
    exact ⟨rfl, (HTL.out _ HB).1⟩
  go_wp2_with fail
  clear K1
  refine (HR2.out _ (HTL.out _ HB).2.2.1).mono ?_
  rintro e w4 ⟨rfl, B4⟩
  replace HB := bthen HB B4
  clear B4 HR2
  have K1 := HC.out _ HB
  cases r2
  · go_wp2_with fail
    clear K1
    refine (HA.out _ (HTL.out _ HB).2.2.2).mono ?_
    rintro e w5 ⟨rfl, B5⟩
    replace HB := bthen HB B5
    go_wp2_with fail
    go_ret
    exact ⟨rfl, (HTL.out _ HB).1⟩
  obtain ⟨hG1, hG2, hPI⟩ := HIF.out trivial rfl
  have p1 := hG1.p2
  have p2 := hG2.p2
  have HGG := Lib.hid (And.intro hG1 hG2)
  have HPI := Lib.hid hPI
  have HLK : Hid (∀ (x y : Nat), x < ns.length → y < ms.length → ∀ z, TreeAt z A A' ns ps → TreeAt z B B' ms qs → Calls Tryd.prog 19 #[.agg #[.slice A ns.length c, .slice A' ps.length c'], .agg #[.slice B ms.length d, .slice B' qs.length d'], .int .i64 x, .int .i64 y] z fun e w' => e = .returned (.bool (decide (Tr.tr ns x = Tr.tr ms y))) ∧ Below z.heap.size z w') := Lib.hid fun x y hx hy => by
    have := alike_f A A' B B' ns ms ps qs c c' d d' hG1.dn hG2.dn (x + 1) x y (by omega) hx hy
    rw [Tr.like_tr hG1.dn hG2.dn hG1.my hG2.my (x + 1) x y (by omega) hx hy] at this
    exact this
  clear hG1 hG2 hPI HIF
  go_wp2_with fail
  clear K1
  have e0 : ((ps.length : Int) == (qs.length : Int)) = alk ns ms ps qs 0 := by rw [alk_zero, Bool.eq_iff_iff, beq_iff_eq, decide_eq_true_iff]; omega
  go_loopw [5, 6] (fun av iv wr => ∃ k : Nat, k ≤ ps.length ∧ av = .bool (alk ns ms ps qs k) ∧ iv = .int .i64 k ∧ Below W0.heap.size W0 wr) (fun _ iv _ => ps.length - (RowKit.intOf iv).toNat)
  case atStart => exact ⟨0, by omega, by rw [← e0], rfl, HB⟩
  case round =>
    clear HB e0
    obtain ⟨k, hk, rfl, rfl, HB⟩ := hrel
    cases hal : alk ns ms ps qs k
    · have hend := Lib.hid (alk_false hal)
      have K1 := HC.out _ HB
      clear hal
      have hpf : Hid (Tr.print ns ps ≠ Tr.print ms qs) := Lib.hid fun he => by
        have h1 := HPI.out.1 he
        rw [hend.out] at h1
        cases h1
      generalize Tr.print ns ps = l1 at HP1 hpf
      generalize Tr.print ms qs = l2 at HP2 hpf
      have hle : (l1 == l2) = false := by simpa using hpf.out
      cases hdk : decide ((k : Int) < (ps.length : Int))
      all_goals
        go_wp2_with fail
        all_goals go_region_held3 (fun z => Below W0.heap.size W0 z ∧ z.cell? ⟨w.heap.size, 0, none⟩ = some (.slice A ns.length c) ∧ z.cell? ⟨w.heap.size, 1, none⟩ = some (.slice A' ps.length c') ∧ z.cell? ⟨w.heap.size + 1, 0, none⟩ = some (.slice B ms.length d) ∧ z.cell? ⟨w.heap.size + 1, 1, none⟩ = some (.slice B' qs.length d')) ((refine ⟨?_, HC.out _ ?_⟩ <;> (repeat (first | (with_reducible exact HB) | (with_reducible refine Below.drew ?_) | (with_reducible refine bl_drewN ?_ _) | ((with_reducible apply bthen); rotate_left; assumption))))) ((first | (go_at_call 9; first | ((with_reducible refine (HP1.out _ ?_ ?_).mono ?_); (focus (refine (HTL.out _ ?_).2.1; (repeat (first | (with_reducible exact HB) | (with_reducible refine Below.drew ?_) | (with_reducible refine bl_drewN ?_ _) | ((with_reducible apply bthen); rotate_left; assumption))); done)); (focus (refine (HTL.out _ ?_).2.2.2; (repeat (first | (with_reducible exact HB) | (with_reducible refine Below.drew ?_) | (with_reducible refine bl_drewN ?_ _) | ((with_reducible apply bthen); rotate_left; assumption))); done)); rintro e w5 ⟨rfl, B5⟩) | ((with_reducible refine (HP2.out _ ?_ ?_).mono ?_); (focus (refine (HTL.out _ ?_).2.2.1; (repeat (first | (with_reducible exact HB) | (with_reducible refine Below.drew ?_) | (with_reducible refine bl_drewN ?_ _) | ((with_reducible apply bthen); rotate_left; assumption))); done)); (focus (refine (HTL.out _ ?_).2.2.2; (repeat (first | (with_reducible exact HB) | (with_reducible refine Below.drew ?_) | (with_reducible refine bl_drewN ?_ _) | ((with_reducible apply bthen); rotate_left; assumption))); done)); rintro e w6 ⟨rfl, B6⟩)) | (go_at_call 13; (with_reducible refine (HA.out _ ?_).mono ?_); (focus (refine (HTL.out _ ?_).2.2.2; (repeat (first | (with_reducible exact HB) | (with_reducible refine Below.drew ?_) | (with_reducible refine bl_drewN ?_ _) | ((with_reducible apply bthen); rotate_left; assumption))); done)); rintro e w7 ⟨rfl, B7⟩)))
        all_goals
          go_wp2_with fail
          go_ret
          refine ⟨by first | rfl | simp, (HTL.out _ ?_).1⟩
          (repeat (first | (with_reducible exact HB) | (with_reducible refine Below.drew ?_) | (with_reducible refine bl_drewN ?_ _) | ((with_reducible apply bthen); rotate_left; assumption)))
    · by_cases hlt : k < ps.length
      · have hll := alk_len hal
        have hlt2 : k < qs.length := by omega
        have hst := Lib.hid (alk_step hal hlt hlt2)
        obtain ⟨a, ha, hab, x0, x1⟩ := (HTL.out _ HB).2.1.parts k hlt
        obtain ⟨b, hb, hbb, y0, y1⟩ := (HTL.out _ HB).2.2.1.parts k hlt2
        have rx := HGG.out.1.rt _ (List.getElem_mem hlt)
        have ry := HGG.out.2.rt _ (List.getElem_mem hlt2)
        obtain ⟨i1, hi1⟩ := Int.eq_ofNat_of_zero_le rx.1
        obtain ⟨k1, hk1⟩ := Int.eq_ofNat_of_zero_le ry.1
        rw [hi1] at hst x0
        rw [hk1] at hst y0
        simp only [Int.toNat_natCast] at hst
        have hX := HLK.out i1 k1 (by omega) (by omega)
        subst ha hb
        generalize hn1 : ps[k].no = n1 at x1 hst
        generalize hn2 : qs[k].no = n2 at y1 hst
        have HC2 : Hid (∀ z, Below W0.heap.size W0 z → z.cell? ⟨w.heap.size, 0, none⟩ = some (.slice A ns.length c) ∧ z.cell? ⟨w.heap.size, 1, none⟩ = some (.slice (some a) ps.length c') ∧ z.cell? ⟨w.heap.size + 1, 0, none⟩ = some (.slice B ms.length d) ∧ z.cell? ⟨w.heap.size + 1, 1, none⟩ = some (.slice (some b) qs.length d') ∧ z.cell? (a.add (k * 2)) = some (.int .i64 i1) ∧ z.cell? ⟨(a.add (k * 2)).block, (a.add (k * 2)).off + 1, none⟩ = some (.bool n1) ∧ z.cell? (b.add (k * 2)) = some (.int .i64 k1) ∧ z.cell? ⟨(b.add (k * 2)).block, (b.add (k * 2)).off + 1, none⟩ = some (.bool n2)) := by
          refine Lib.hid fun z hz => ?_
          obtain ⟨q0, q1, q2, q3⟩ := HC.out z hz
          obtain ⟨a', ea, _, u0, u1⟩ := (HTL.out _ hz).2.1.parts k hlt
          obtain ⟨b', eb, _, v0, v1⟩ := (HTL.out _ hz).2.2.1.parts k hlt2
          cases ea
          cases eb
          rw [hi1] at u0
          rw [hk1] at v0
          rw [hn1] at u1
          rw [hn2] at v1
          exact ⟨q0, q1, q2, q3, u0, u1, v0, v1⟩
        clear rx ry hi1 hk1 hal hn1 hn2
        have K1 := HC2.out _ HB
        have e1 : (k : Int) < ps.length := by omega
        have e2 : (k : Int) < qs.length := by omega
        clear hll
        cases n1 <;> cases n2
        · rw [show (false == false) = true from rfl, Bool.true_and] at hst
          have HX := Lib.hid hX
          clear hX
          generalize decide (Tr.tr ns i1 = Tr.tr ms k1) = v at hst HX
          go_wp2_with fail
          all_goals go_region_held3 (fun z => Below W0.heap.size W0 z ∧ z.cell? ⟨w.heap.size, 0, none⟩ = some (.slice A ns.length c) ∧ z.cell? ⟨w.heap.size, 1, none⟩ = some (.slice (some a) ps.length c') ∧ z.cell? ⟨w.heap.size + 1, 0, none⟩ = some (.slice B ms.length d) ∧ z.cell? ⟨w.heap.size + 1, 1, none⟩ = some (.slice (some b) qs.length d') ∧ z.cell? (a.add (k * 2)) = some (.int .i64 i1) ∧ z.cell? ⟨(a.add (k * 2)).block, (a.add (k * 2)).off + 1, none⟩ = some (.bool false) ∧ z.cell? (b.add (k * 2)) = some (.int .i64 k1) ∧ z.cell? ⟨(b.add (k * 2)).block, (b.add (k * 2)).off + 1, none⟩ = some (.bool false)) ((refine ⟨?_, HC2.out _ ?_⟩ <;> (repeat (first | (with_reducible exact HB) | (with_reducible refine Below.drew ?_) | (with_reducible refine bl_drewN ?_ _) | ((with_reducible apply bthen); rotate_left; assumption))))) (((go_at_call 19; (with_reducible refine (HX.out _ ?_ ?_).mono ?_); (focus (refine (HTL.out _ ?_).2.1; (repeat (first | (with_reducible exact HB) | (with_reducible refine Below.drew ?_) | (with_reducible refine bl_drewN ?_ _) | ((with_reducible apply bthen); rotate_left; assumption))); done)); (focus (refine (HTL.out _ ?_).2.2.1; (repeat (first | (with_reducible exact HB) | (with_reducible refine Below.drew ?_) | (with_reducible refine bl_drewN ?_ _) | ((with_reducible apply bthen); rotate_left; assumption))); done)); rintro e w5 ⟨rfl, B5⟩)))
          all_goals
            go_wp2_with fail
            go_roundw
            case rel =>
              refine ⟨k + 1, by omega, ?_, by go_num, ?_⟩
              · rw [hst.out]
              · (repeat (first | (with_reducible exact HB) | (with_reducible refine Below.drew ?_) | (with_reducible refine bl_drewN ?_ _) | ((with_reducible apply bthen); rotate_left; assumption)))
            case measure => simp [RowKit.intOf]; omega
        · rw [show (false == true) = false from rfl, Bool.false_and] at hst
          clear hX
          go_wp2_with fail
          go_quiet (fail)
          all_goals
            go_wp2_with fail
            go_roundw
            case rel =>
              refine ⟨k + 1, by omega, ?_, by go_num, two_drewN ?_⟩
              · rw [hst.out]
              · (repeat (first | (with_reducible exact HB) | (with_reducible refine Below.drew ?_) | (with_reducible refine bl_drewN ?_ _) | ((with_reducible apply bthen); rotate_left; assumption)))
            case measure => simp [RowKit.intOf]; omega
        · rw [show (true == false) = false from rfl, Bool.false_and] at hst
          clear hX
          go_wp2_with fail
          go_quiet (fail)
          all_goals
            go_wp2_with fail
            go_roundw
            case rel =>
              refine ⟨k + 1, by omega, ?_, by go_num, two_drewN ?_⟩
              · rw [hst.out]
              · (repeat (first | (with_reducible exact HB) | (with_reducible refine Below.drew ?_) | (with_reducible refine bl_drewN ?_ _) | ((with_reducible apply bthen); rotate_left; assumption)))
            case measure => simp [RowKit.intOf]; omega
        · rw [show (true == true) = true from rfl, Bool.true_and] at hst
          have HX := Lib.hid hX
          clear hX
          generalize decide (Tr.tr ns i1 = Tr.tr ms k1) = v at hst HX
          go_wp2_with fail
          all_goals go_region_held3 (fun z => Below W0.heap.size W0 z ∧ z.cell? ⟨w.heap.size, 0, none⟩ = some (.slice A ns.length c) ∧ z.cell? ⟨w.heap.size, 1, none⟩ = some (.slice (some a) ps.length c') ∧ z.cell? ⟨w.heap.size + 1, 0, none⟩ = some (.slice B ms.length d) ∧ z.cell? ⟨w.heap.size + 1, 1, none⟩ = some (.slice (some b) qs.length d') ∧ z.cell? (a.add (k * 2)) = some (.int .i64 i1) ∧ z.cell? ⟨(a.add (k * 2)).block, (a.add (k * 2)).off + 1, none⟩ = some (.bool true) ∧ z.cell? (b.add (k * 2)) = some (.int .i64 k1) ∧ z.cell? ⟨(b.add (k * 2)).block, (b.add (k * 2)).off + 1, none⟩ = some (.bool true)) ((refine ⟨?_, HC2.out _ ?_⟩ <;> (repeat (first | (with_reducible exact HB) | (with_reducible refine Below.drew ?_) | (with_reducible refine bl_drewN ?_ _) | ((with_reducible apply bthen); rotate_left; assumption))))) (((go_at_call 19; (with_reducible refine (HX.out _ ?_ ?_).mono ?_); (focus (refine (HTL.out _ ?_).2.1; (repeat (first | (with_reducible exact HB) | (with_reducible refine Below.drew ?_) | (with_reducible refine bl_drewN ?_ _) | ((with_reducible apply bthen); rotate_left; assumption))); done)); (focus (refine (HTL.out _ ?_).2.2.1; (repeat (first | (with_reducible exact HB) | (with_reducible refine Below.drew ?_) | (with_reducible refine bl_drewN ?_ _) | ((with_reducible apply bthen); rotate_left; assumption))); done)); rintro e w5 ⟨rfl, B5⟩)))
          all_goals
            go_wp2_with fail
            go_roundw
            case rel =>
              refine ⟨k + 1, by omega, ?_, by go_num, ?_⟩
              · rw [hst.out]
              · (repeat (first | (with_reducible exact HB) | (with_reducible refine Below.drew ?_) | (with_reducible refine bl_drewN ?_ _) | ((with_reducible apply bthen); rotate_left; assumption)))
            case measure => simp [RowKit.intOf]; omega
      · have hke : k = ps.length := by omega
        subst hke
        rw [alk_end] at hal
        have hpt : Hid (Tr.print ns ps = Tr.print ms qs) := Lib.hid (HPI.out.2 hal)
        generalize Tr.print ns ps = l1 at HP1 hpt
        generalize Tr.print ms qs = l2 at HP2 hpt
        have hle : (l1 == l2) = true := by simpa using hpt.out
        have K1 := HC.out _ HB
        clear hal hlt
        go_wp2_with fail
        all_goals go_region_held3 (fun z => Below W0.heap.size W0 z ∧ z.cell? ⟨w.heap.size, 0, none⟩ = some (.slice A ns.length c) ∧ z.cell? ⟨w.heap.size, 1, none⟩ = some (.slice A' ps.length c') ∧ z.cell? ⟨w.heap.size + 1, 0, none⟩ = some (.slice B ms.length d) ∧ z.cell? ⟨w.heap.size + 1, 1, none⟩ = some (.slice B' qs.length d')) ((refine ⟨?_, HC.out _ ?_⟩ <;> (repeat (first | (with_reducible exact HB) | (with_reducible refine Below.drew ?_) | (with_reducible refine bl_drewN ?_ _) | ((with_reducible apply bthen); rotate_left; assumption))))) ((first | (go_at_call 9; first | ((with_reducible refine (HP1.out _ ?_ ?_).mono ?_); (focus (refine (HTL.out _ ?_).2.1; (repeat (first | (with_reducible exact HB) | (with_reducible refine Below.drew ?_) | (with_reducible refine bl_drewN ?_ _) | ((with_reducible apply bthen); rotate_left; assumption))); done)); (focus (refine (HTL.out _ ?_).2.2.2; (repeat (first | (with_reducible exact HB) | (with_reducible refine Below.drew ?_) | (with_reducible refine bl_drewN ?_ _) | ((with_reducible apply bthen); rotate_left; assumption))); done)); rintro e w5 ⟨rfl, B5⟩) | ((with_reducible refine (HP2.out _ ?_ ?_).mono ?_); (focus (refine (HTL.out _ ?_).2.2.1; (repeat (first | (with_reducible exact HB) | (with_reducible refine Below.drew ?_) | (with_reducible refine bl_drewN ?_ _) | ((with_reducible apply bthen); rotate_left; assumption))); done)); (focus (refine (HTL.out _ ?_).2.2.2; (repeat (first | (with_reducible exact HB) | (with_reducible refine Below.drew ?_) | (with_reducible refine bl_drewN ?_ _) | ((with_reducible apply bthen); rotate_left; assumption))); done)); rintro e w6 ⟨rfl, B6⟩)) | (go_at_call 13; (with_reducible refine (HA.out _ ?_).mono ?_); (focus (refine (HTL.out _ ?_).2.2.2; (repeat (first | (with_reducible exact HB) | (with_reducible refine Below.drew ?_) | (with_reducible refine bl_drewN ?_ _) | ((with_reducible apply bthen); rotate_left; assumption))); done)); rintro e w7 ⟨rfl, B7⟩)))
        all_goals
          go_wp2_with fail
          go_ret
          refine ⟨by first | rfl | simp, (HTL.out _ ?_).1⟩
          (repeat (first | (with_reducible exact HB) | (with_reducible refine Below.drew ?_) | (with_reducible refine bl_drewN ?_ _) | ((with_reducible apply bthen); rotate_left; assumption)))
end Go.Proofs.YtebkaajnnjfhjaaDoor
