/-
  tree.node: walked.
-/
import Derived.Test.YtebkaajnnjfhjaaDoorAround
namespace Go.Proofs.YtebkaajnnjfhjaaDoor
set_option linter.unusedVariables false
set_option linter.unusedSimpArgs false
open Go.RowKit Go.Proofs.YtebkaajnnjfhjaaDoorW.PrintWords
open Tr (Nd Pt)
attribute [local go_sem ↓] Go.wp_at_zero Go.wp_at_succ

/-- Since a world b, in which t's box and the node's variable lie: they do still, and the tree reads. -/
structure NIn (b : World) (A A' : Option Addr) (ns : List Nd) (ps : List Pt) (x : World) : Prop where
  below : Below b.heap.size b x
  pr : PrAt x A A' ns ps
theorem NIn.drew {b : World} {A A' : Option Addr} {ns : List Nd} {ps : List Pt} {x : World} (h : NIn b A A' ns ps x) : NIn b A A' ns ps x.drew := ⟨Below.drew h.below, h.pr.below (Below.drew (Below.refl _ _))⟩
theorem NIn.call {b : World} {A A' : Option Addr} {ns : List Nd} {ps : List Pt} {x y : World} (h : NIn b A A' ns ps x) (c : Below x.heap.size x y) : NIn b A A' ns ps y := ⟨h.below.trans (c.mono h.below.size), h.pr.below c⟩
theorem NIn.alloc {b : World} {A A' : Option Addr} {ns : List Nd} {ps : List Pt} {x : World} (h : NIn b A A' ns ps x) (o : Obj) : NIn b A A' ns ps (x.alloc o) := h.call ((Below.refl _ _).alloc (Nat.le_refl _) o)
theorem UB.new (W : World) (g : Nat) (l : List Int) (h : W.heap.size = g) : UB (W.alloc (.cells (nums .u8 l).toArray 5)) g l := by
  subst h
  exact blk_new W _
theorem UB4 (W : World) (g : Nat) (h : W.heap.size = g) : UB (W.alloc (.cells #[.int .u8 4] 5)) g [4] := UB.new W g [4] h
theorem UB43 (W : World) (g : Nat) (h : W.heap.size = g) : UB (W.alloc (.cells #[.int .u8 4, .int .u8 3] 5)) g [4, 3] := UB.new W g [4, 3] h
theorem UB345 (W : World) (g : Nat) (h : W.heap.size = g) : UB (W.alloc (.cells #[.int .u8 3, .int .u8 4, .int .u8 5] 5)) g [3, 4, 5] := UB.new W g [3, 4, 5] h
theorem UB.drew {w : World} {g : Nat} {l : List Int} (h : UB w g l) : UB w.drew g l := h
/-- The cells of t's box and of the node's variable. -/
def NC (t0 t1 va vb : Value) (g : Nat) (x : World) : Prop := x.cell? ⟨g, 0, none⟩ = some t0 ∧ x.cell? ⟨g, 1, none⟩ = some t1 ∧ x.cell? ⟨g + 1, 5, none⟩ = some va ∧ x.cell? ⟨g + 1, 6, none⟩ = some vb
set_option maxRecDepth 100000 in
set_option maxHeartbeats 3200000 in
theorem node_f (A A' : Option Addr) (ns : List Nd) (ps : List Pt) (c c' : Nat) (hw : Tr.Words ns) (f : Nat) : ∀ i, i < f → i < ns.length → NodeSaid A A' ns ps c c' i := by
  induction f with
  | zero => intro i h; omega
  | succ f ih =>
    intro i hf hi w hP
    have hd : Tr.Dn ns := hP.good.dn
    have hn : ns[i]? = some ns[i] := List.getElem?_eq_getElem hi
    have hmem := List.getElem_mem hi
    have hB0 : Below w.heap.size w (w.alloc (.cells #[.slice A ns.length c, .slice A' ps.length c'] 33)) := by (repeat (first | exact Below.refl _ _ | assumption | refine Below.drew ?_ | refine Below.alloc ?_ (by first | exact Nat.le_refl _ | (simp; done) | (simp; omega) | omega) _ | refine Below.setCell ?_ (by first | exact Nat.le_refl _ | (simp; done) | (simp; omega) | omega) _))
    obtain ⟨a, ha, hab, hNA⟩ := hP.tree.nodes i hi
    have hle := hP.good.n2
    have hmay := hP.good.my _ hmem
    have hwk := hw _ hmem
    have hch := hd i _ hn
    subst ha
    obtain ⟨c0, c1, c2, c3, c4, c5, c6, c7, c8⟩ := hNA.below hB0 (by rw [add_block]; exact hab)
    rcases Tr.may_kind hmay with hk | hk | hk | hk | hk
    · have HT : Hid (Tr.tr ns i = .emp) := Lib.hid (Tr.tr_emp hn (by omega) (by omega) (by omega) (by omega))
      rw [HT.out]
      generalize ns[i] = n at *
      rw [hk] at c0
      clear hn hmem hNA hk hmay hwk hch hd ih hP
      go_enter Tryd.func25, Tryd.ntmps25
      go_wp2_with fail
      go_ret
      exact ⟨rfl, by (repeat (first | exact Below.refl _ _ | assumption | refine Below.drew ?_ | refine Below.alloc ?_ (by first | exact Nat.le_refl _ | (simp; done) | (simp; omega) | omega) _ | refine Below.setCell ?_ (by first | exact Nat.le_refl _ | (simp; done) | (simp; omega) | omega) _))⟩
    · have HT : Hid (Tr.tr ns i = .set ns[i].s) := Lib.hid (Tr.tr_set hn hk)
      rw [HT.out]
      have HS := Lib.hid (fun w1 hL => set_any ns[i].s hwk w1 hL)
      have HL := Lib.hid (hP.laid)
      generalize ns[i] = n at *
      rw [hk] at c0
      have hB1 : Below w.heap.size w ((w.alloc (.cells #[.slice (some a) ns.length c, .slice A' ps.length c'] 33)).alloc (.cells #[.int .u8 2, .int .u64 n.s.a, .int .u64 n.s.b, .int .u64 n.s.c, .int .u64 n.s.d, .int .i64 n.a, .int .i64 n.b, .int .i64 n.mn, .int .i64 n.mx] 27)) := by (repeat (first | exact Below.refl _ _ | assumption | refine Below.drew ?_ | refine Below.alloc ?_ (by first | exact Nat.le_refl _ | (simp; done) | (simp; omega) | omega) _ | refine Below.setCell ?_ (by first | exact Nat.le_refl _ | (simp; done) | (simp; omega) | omega) _))
      clear hn hmem hNA hk hmay hwk hch hd ih hP
      go_enter Tryd.func25, Tryd.ntmps25
      go_wp2_with fail
      refine (HS.out _ (HL.out.below hB1)).mono ?_
      rintro e w1 ⟨rfl, B1⟩
      go_wp2_with fail
      go_ret
      exact ⟨rfl, bthen hB1 B1⟩
    · have HT : Hid (Tr.tr ns i = .seq (Tr.tr ns ns[i].a.toNat) (Tr.tr ns ns[i].b.toNat)) := Lib.hid (Tr.tr_seq hd hn hk)
      have e : Tr.below ns[i] = [ns[i].a, ns[i].b] := by unfold Tr.below; simp [hk]
      have ha := hch ns[i].a (by simp [e])
      have hb := hch ns[i].b (by simp [e])
      obtain ⟨x, hx⟩ := Int.eq_ofNat_of_zero_le ha.1
      obtain ⟨y, hy⟩ := Int.eq_ofNat_of_zero_le hb.1
      rw [HT.out]
      have HX := Lib.hid (ih x (by omega) (by omega))
      have HY := Lib.hid (ih y (by omega) (by omega))
      have xl : x < ns.length := by omega
      have yl : y < ns.length := by omega
      have KX := Lib.hid (Tr.kind_of hP.good xl)
      have KY := Lib.hid (Tr.kind_of hP.good yl)
      have zx := Tr.pn_short hP.good xl
      have zy := Tr.pn_short hP.good yl
      have hax := fun g w1 h1 h2 => around_any c c' x xl HX.out [4] (by decide) g w1 h1 h2
      have hay := fun g w1 h1 h2 => around_any c c' y yl HY.out [4, 3] (by decide) g w1 h1 h2
      have ex : (List.any [4] fun v => ((ns[x].k : Int) == v)) = (Tr.tr ns x).isAlt := by
        rw [KX.out.1]
        by_cases h : ns[x].k = 4
        · rw [h]; decide
        · have : ¬ ((ns[x].k : Int) = 4) := by omega
          simp [h, this]
      have ey : (List.any [4, 3] fun v => ((ns[y].k : Int) == v)) = ((Tr.tr ns y).isAlt || (Tr.tr ns y).isSeq) := by
        rw [KY.out.1, KY.out.2.1]
        by_cases h : ns[y].k = 4
        · rw [h]; decide
        · by_cases h3 : ns[y].k = 3
          · rw [h3]; decide
          · have g1 : ¬ ((ns[y].k : Int) = 4) := by omega
            have g2 : ¬ ((ns[y].k : Int) = 3) := by omega
            simp [h, h3, g1, g2]
      rw [ex] at hax
      rw [ey] at hay
      have HAX : Hid (∀ g w1, PrAt w1 (some a) A' ns ps → UB w1 g [4] → Calls Tryd.prog 45 #[.agg #[.slice (some a) ns.length c, .slice A' ps.length c'], .int .i64 x, .slice (some ⟨g, 0, none⟩) 1 1] w1 fun e w' => e = .returned (.string ⟨(Tr.wr (Tr.tr ns x).isAlt (Tr.pn (Tr.tr ns x))).toArray⟩) ∧ Below w1.heap.size w1 w') := Lib.hid hax
      have HAY : Hid (∀ g w1, PrAt w1 (some a) A' ns ps → UB w1 g [4, 3] → Calls Tryd.prog 45 #[.agg #[.slice (some a) ns.length c, .slice A' ps.length c'], .int .i64 y, .slice (some ⟨g, 0, none⟩) 2 2] w1 fun e w' => e = .returned (.string ⟨(Tr.wr ((Tr.tr ns y).isAlt || (Tr.tr ns y).isSeq) (Tr.pn (Tr.tr ns y))).toArray⟩) ∧ Below w1.heap.size w1 w') := Lib.hid hay
      have l1 := Tr.wr_len (Tr.tr ns x).isAlt (Tr.pn (Tr.tr ns x))
      have l2 := Tr.wr_len ((Tr.tr ns y).isAlt || (Tr.tr ns y).isSeq) (Tr.pn (Tr.tr ns y))
      have HT2 : Hid (Tr.pn (.seq (Tr.tr ns ns[i].a.toNat) (Tr.tr ns ns[i].b.toNat)) = Tr.wr (Tr.tr ns x).isAlt (Tr.pn (Tr.tr ns x)) ++ Tr.wr ((Tr.tr ns y).isAlt || (Tr.tr ns y).isSeq) (Tr.pn (Tr.tr ns y))) := Lib.hid (by rw [hx, hy]; rfl)
      have HTE := Lib.hid (HT.out)
      generalize Tr.wr (Tr.tr ns x).isAlt (Tr.pn (Tr.tr ns x)) = px at HAX l1 HT2
      generalize Tr.wr ((Tr.tr ns y).isAlt || (Tr.tr ns y).isSeq) (Tr.pn (Tr.tr ns y)) = py at HAY l2 HT2
      have hz : ¬ 9223372036854775807 < px.length + py.length := by omega
      rw [HT2.out]
      have HPR := Lib.hid hP
      generalize ns[i] = n at *
      rw [hk] at c0
      rw [hx] at c5
      rw [hy] at c6
      have hB1 : Below w.heap.size w ((w.alloc (.cells #[.slice (some a) ns.length c, .slice A' ps.length c'] 33)).alloc (.cells #[.int .u8 3, .int .u64 n.s.a, .int .u64 n.s.b, .int .u64 n.s.c, .int .u64 n.s.d, .int .i64 x, .int .i64 y, .int .i64 n.mn, .int .i64 n.mx] 27)) := by (repeat (first | exact Below.refl _ _ | assumption | refine Below.drew ?_ | refine Below.alloc ?_ (by first | exact Nat.le_refl _ | (simp; done) | (simp; omega) | omega) _ | refine Below.setCell ?_ (by first | exact Nat.le_refl _ | (simp; done) | (simp; omega) | omega) _))
      have hNC : NC (.slice (some a) ns.length c) (.slice A' ps.length c') (.int .i64 x) (.int .i64 y) w.heap.size ((w.alloc (.cells #[.slice (some a) ns.length c, .slice A' ps.length c'] 33)).alloc (.cells #[.int .u8 3, .int .u64 n.s.a, .int .u64 n.s.b, .int .u64 n.s.c, .int .u64 n.s.d, .int .i64 x, .int .i64 y, .int .i64 n.mn, .int .i64 n.mx] 27)) := by
        unfold NC; simp
      have hNI : NIn ((w.alloc (.cells #[.slice (some a) ns.length c, .slice A' ps.length c'] 33)).alloc (.cells #[.int .u8 3, .int .u64 n.s.a, .int .u64 n.s.b, .int .u64 n.s.c, .int .u64 n.s.d, .int .i64 x, .int .i64 y, .int .i64 n.mn, .int .i64 n.mx] 27)) (some a) A' ns ps ((w.alloc (.cells #[.slice (some a) ns.length c, .slice A' ps.length c'] 33)).alloc (.cells #[.int .u8 3, .int .u64 n.s.a, .int .u64 n.s.b, .int .u64 n.s.c, .int .u64 n.s.d, .int .i64 x, .int .i64 y, .int .i64 n.mn, .int .i64 n.mx] 27)) := ⟨Below.refl _ _, hP.below hB1⟩
      have hbs : w.heap.size + 1 < ((w.alloc (.cells #[.slice (some a) ns.length c, .slice A' ps.length c'] 33)).alloc (.cells #[.int .u8 3, .int .u64 n.s.a, .int .u64 n.s.b, .int .u64 n.s.c, .int .u64 n.s.d, .int .i64 x, .int .i64 y, .int .i64 n.mn, .int .i64 n.mx] 27)).heap.size := by simp
      clear hn hmem hNA hk hmay hwk hch hd ih hP KX KY HX HY hax hay ex ey
      go_enter Tryd.func25, Tryd.ntmps25
      go_wp2_with fail
      clear c0 c1 c2 c3 c4 c5 c6 c7 c8
      generalize (w.alloc (.cells #[.slice (some a) ns.length c, .slice A' ps.length c'] 33)).alloc (.cells #[.int .u8 3, .int .u64 n.s.a, .int .u64 n.s.b, .int .u64 n.s.c, .int .u64 n.s.d, .int .i64 x, .int .i64 y, .int .i64 n.mn, .int .i64 n.mx] 27) = W0 at hB1 hNC hNI hbs ⊢
      have HC := Lib.hid (fun z (hz : NIn W0 (some a) A' ns ps z) => (⟨(hz.below.cell (p := ⟨w.heap.size, 0, none⟩) (by show w.heap.size < _; omega)).trans hNC.1, (hz.below.cell (p := ⟨w.heap.size, 1, none⟩) (by show w.heap.size < _; omega)).trans hNC.2.1, (hz.below.cell (p := ⟨w.heap.size + 1, 5, none⟩) hbs).trans hNC.2.2.1, (hz.below.cell (p := ⟨w.heap.size + 1, 6, none⟩) hbs).trans hNC.2.2.2⟩ : NC (.slice (some a) ns.length c) (.slice A' ps.length c') (.int .i64 x) (.int .i64 y) w.heap.size z))
      unfold NC at HC
      have hNC0 := HC.out _ hNI
      clear hNC
      go_region_held3 (fun z => NIn W0 (some a) A' ns ps z ∧ z.cell? ⟨w.heap.size, 0, none⟩ = some (.slice (some a) ns.length c) ∧ z.cell? ⟨w.heap.size, 1, none⟩ = some (.slice A' ps.length c') ∧ z.cell? ⟨w.heap.size + 1, 5, none⟩ = some (.int .i64 x) ∧ z.cell? ⟨w.heap.size + 1, 6, none⟩ = some (.int .i64 y)) ((refine ⟨?_, HC.out _ ?_⟩ <;> (repeat (first | (with_reducible exact hNI) | (with_reducible refine NIn.drew ?_) | (with_reducible refine NIn.alloc ?_ _) | ((with_reducible apply NIn.call); rotate_left; assumption))))) ((first | (go_at_call 45; (with_reducible refine (HAX.out _ _ ?_ ?_).mono ?_); (focus (refine NIn.pr (b := W0) ?_; (repeat (first | (with_reducible exact hNI) | (with_reducible refine NIn.drew ?_) | (with_reducible refine NIn.alloc ?_ _) | ((with_reducible apply NIn.call); rotate_left; assumption))); done)); (focus ((repeat (first | (with_reducible refine UB.drew ?_) | ((with_reducible refine UB4 _ _ ?_); (simp; done)) | ((with_reducible refine UB43 _ _ ?_); (simp; done)) | ((with_reducible refine UB345 _ _ ?_); (simp; done)) | (with_reducible refine UB.alloc ?_ _) | ((with_reducible apply UB.below); rotate_left; assumption))); done)); rintro e w3 ⟨rfl, B3⟩) | (go_at_call 45; (with_reducible refine (HAY.out _ _ ?_ ?_).mono ?_); (focus (refine NIn.pr (b := W0) ?_; (repeat (first | (with_reducible exact hNI) | (with_reducible refine NIn.drew ?_) | (with_reducible refine NIn.alloc ?_ _) | ((with_reducible apply NIn.call); rotate_left; assumption))); done)); (focus ((repeat (first | (with_reducible refine UB.drew ?_) | ((with_reducible refine UB4 _ _ ?_); (simp; done)) | ((with_reducible refine UB43 _ _ ?_); (simp; done)) | ((with_reducible refine UB345 _ _ ?_); (simp; done)) | (with_reducible refine UB.alloc ?_ _) | ((with_reducible apply UB.below); rotate_left; assumption))); done)); rintro e w4 ⟨rfl, B4⟩)))
      all_goals
        go_wp2_with fail
        go_ret
        refine ⟨rfl, hB1.trans ((NIn.below (b := W0) (A := some a) (A' := A') (ns := ns) (ps := ps) ?_).mono (by omega))⟩
        (repeat (first | (with_reducible exact hNI) | (with_reducible refine NIn.drew ?_) | (with_reducible refine NIn.alloc ?_ _) | ((with_reducible apply NIn.call); rotate_left; assumption)))
    · have HT : Hid (Tr.tr ns i = .alt (Tr.tr ns ns[i].a.toNat) (Tr.tr ns ns[i].b.toNat)) := Lib.hid (Tr.tr_alt hd hn hk)
      have e : Tr.below ns[i] = [ns[i].a, ns[i].b] := by unfold Tr.below; simp [hk]
      have ha := hch ns[i].a (by simp [e])
      have hb := hch ns[i].b (by simp [e])
      obtain ⟨x, hx⟩ := Int.eq_ofNat_of_zero_le ha.1
      obtain ⟨y, hy⟩ := Int.eq_ofNat_of_zero_le hb.1
      rw [HT.out]
      have HX := Lib.hid (ih x (by omega) (by omega))
      have HY := Lib.hid (ih y (by omega) (by omega))
      have xl : x < ns.length := by omega
      have yl : y < ns.length := by omega
      have KX := Lib.hid (Tr.kind_of hP.good xl)
      have KY := Lib.hid (Tr.kind_of hP.good yl)
      have zx := Tr.pn_short hP.good xl
      have zy := Tr.pn_short hP.good yl
      have hay := fun g w1 h1 h2 => around_any c c' y yl HY.out [4] (by decide) g w1 h1 h2
      have ey : (List.any [4] fun v => ((ns[y].k : Int) == v)) = (Tr.tr ns y).isAlt := by
        rw [KY.out.1]
        by_cases h : ns[y].k = 4
        · rw [h]; decide
        · have : ¬ ((ns[y].k : Int) = 4) := by omega
          simp [h, this]
      rw [ey] at hay
      have HAX : Hid (∀ w1, PrAt w1 (some a) A' ns ps → Calls Tryd.prog 25 #[.agg #[.slice (some a) ns.length c, .slice A' ps.length c'], .int .i64 x] w1 fun e w' => e = .returned (.string ⟨(Tr.pn (Tr.tr ns x)).toArray⟩) ∧ Below w1.heap.size w1 w') := Lib.hid HX.out
      have HAY : Hid (∀ g w1, PrAt w1 (some a) A' ns ps → UB w1 g [4] → Calls Tryd.prog 45 #[.agg #[.slice (some a) ns.length c, .slice A' ps.length c'], .int .i64 y, .slice (some ⟨g, 0, none⟩) 1 1] w1 fun e w' => e = .returned (.string ⟨(Tr.wr (Tr.tr ns y).isAlt (Tr.pn (Tr.tr ns y))).toArray⟩) ∧ Below w1.heap.size w1 w') := Lib.hid hay
      have l1 := zx
      have l2 := Tr.wr_len (Tr.tr ns y).isAlt (Tr.pn (Tr.tr ns y))
      have HT2 : Hid (Tr.pn (.alt (Tr.tr ns ns[i].a.toNat) (Tr.tr ns ns[i].b.toNat)) = Tr.pn (Tr.tr ns x) ++ 124 :: Tr.wr (Tr.tr ns y).isAlt (Tr.pn (Tr.tr ns y))) := Lib.hid (by rw [hx, hy]; rfl)
      have HTE := Lib.hid (HT.out)
      generalize Tr.wr (Tr.tr ns y).isAlt (Tr.pn (Tr.tr ns y)) = py at HAY l2 HT2
      generalize Tr.pn (Tr.tr ns x) = px at HAX l1 HT2
      have hz : ¬ 9223372036854775807 < px.length + 1 := by omega
      have hz2 : ¬ 9223372036854775807 < px.length + 1 + py.length := by omega
      have hz3 : ¬ 9223372036854775807 < px.length + (1 + py.length) := by omega
      have hz4 : ¬ 9223372036854775807 < px.length + (py.length + 1) := by omega
      rw [HT2.out]
      have HPR := Lib.hid hP
      generalize ns[i] = n at *
      rw [hk] at c0
      rw [hx] at c5
      rw [hy] at c6
      have hB1 : Below w.heap.size w ((w.alloc (.cells #[.slice (some a) ns.length c, .slice A' ps.length c'] 33)).alloc (.cells #[.int .u8 4, .int .u64 n.s.a, .int .u64 n.s.b, .int .u64 n.s.c, .int .u64 n.s.d, .int .i64 x, .int .i64 y, .int .i64 n.mn, .int .i64 n.mx] 27)) := by (repeat (first | exact Below.refl _ _ | assumption | refine Below.drew ?_ | refine Below.alloc ?_ (by first | exact Nat.le_refl _ | (simp; done) | (simp; omega) | omega) _ | refine Below.setCell ?_ (by first | exact Nat.le_refl _ | (simp; done) | (simp; omega) | omega) _))
      have hNC : NC (.slice (some a) ns.length c) (.slice A' ps.length c') (.int .i64 x) (.int .i64 y) w.heap.size ((w.alloc (.cells #[.slice (some a) ns.length c, .slice A' ps.length c'] 33)).alloc (.cells #[.int .u8 4, .int .u64 n.s.a, .int .u64 n.s.b, .int .u64 n.s.c, .int .u64 n.s.d, .int .i64 x, .int .i64 y, .int .i64 n.mn, .int .i64 n.mx] 27)) := by
        unfold NC; simp
      have hNI : NIn ((w.alloc (.cells #[.slice (some a) ns.length c, .slice A' ps.length c'] 33)).alloc (.cells #[.int .u8 4, .int .u64 n.s.a, .int .u64 n.s.b, .int .u64 n.s.c, .int .u64 n.s.d, .int .i64 x, .int .i64 y, .int .i64 n.mn, .int .i64 n.mx] 27)) (some a) A' ns ps ((w.alloc (.cells #[.slice (some a) ns.length c, .slice A' ps.length c'] 33)).alloc (.cells #[.int .u8 4, .int .u64 n.s.a, .int .u64 n.s.b, .int .u64 n.s.c, .int .u64 n.s.d, .int .i64 x, .int .i64 y, .int .i64 n.mn, .int .i64 n.mx] 27)) := ⟨Below.refl _ _, hP.below hB1⟩
      have hbs : w.heap.size + 1 < ((w.alloc (.cells #[.slice (some a) ns.length c, .slice A' ps.length c'] 33)).alloc (.cells #[.int .u8 4, .int .u64 n.s.a, .int .u64 n.s.b, .int .u64 n.s.c, .int .u64 n.s.d, .int .i64 x, .int .i64 y, .int .i64 n.mn, .int .i64 n.mx] 27)).heap.size := by simp
      clear hn hmem hNA hk hmay hwk hch hd ih hP KX KY HX HY hay ey
      go_enter Tryd.func25, Tryd.ntmps25
      go_wp2_with fail
      clear c0 c1 c2 c3 c4 c5 c6 c7 c8
      generalize (w.alloc (.cells #[.slice (some a) ns.length c, .slice A' ps.length c'] 33)).alloc (.cells #[.int .u8 4, .int .u64 n.s.a, .int .u64 n.s.b, .int .u64 n.s.c, .int .u64 n.s.d, .int .i64 x, .int .i64 y, .int .i64 n.mn, .int .i64 n.mx] 27) = W0 at hB1 hNC hNI hbs ⊢
      have HC := Lib.hid (fun z (hz : NIn W0 (some a) A' ns ps z) => (⟨(hz.below.cell (p := ⟨w.heap.size, 0, none⟩) (by show w.heap.size < _; omega)).trans hNC.1, (hz.below.cell (p := ⟨w.heap.size, 1, none⟩) (by show w.heap.size < _; omega)).trans hNC.2.1, (hz.below.cell (p := ⟨w.heap.size + 1, 5, none⟩) hbs).trans hNC.2.2.1, (hz.below.cell (p := ⟨w.heap.size + 1, 6, none⟩) hbs).trans hNC.2.2.2⟩ : NC (.slice (some a) ns.length c) (.slice A' ps.length c') (.int .i64 x) (.int .i64 y) w.heap.size z))
      unfold NC at HC
      have hNC0 := HC.out _ hNI
      clear hNC
      go_region_held3 (fun z => NIn W0 (some a) A' ns ps z ∧ z.cell? ⟨w.heap.size, 0, none⟩ = some (.slice (some a) ns.length c) ∧ z.cell? ⟨w.heap.size, 1, none⟩ = some (.slice A' ps.length c') ∧ z.cell? ⟨w.heap.size + 1, 5, none⟩ = some (.int .i64 x) ∧ z.cell? ⟨w.heap.size + 1, 6, none⟩ = some (.int .i64 y)) ((refine ⟨?_, HC.out _ ?_⟩ <;> (repeat (first | (with_reducible exact hNI) | (with_reducible refine NIn.drew ?_) | (with_reducible refine NIn.alloc ?_ _) | ((with_reducible apply NIn.call); rotate_left; assumption))))) ((first | (go_at_call 25; (with_reducible refine (HAX.out _ ?_).mono ?_); (focus (refine NIn.pr (b := W0) ?_; (repeat (first | (with_reducible exact hNI) | (with_reducible refine NIn.drew ?_) | (with_reducible refine NIn.alloc ?_ _) | ((with_reducible apply NIn.call); rotate_left; assumption))); done)); rintro e w3 ⟨rfl, B3⟩) | (go_at_call 45; (with_reducible refine (HAY.out _ _ ?_ ?_).mono ?_); (focus (refine NIn.pr (b := W0) ?_; (repeat (first | (with_reducible exact hNI) | (with_reducible refine NIn.drew ?_) | (with_reducible refine NIn.alloc ?_ _) | ((with_reducible apply NIn.call); rotate_left; assumption))); done)); (focus ((repeat (first | (with_reducible refine UB.drew ?_) | ((with_reducible refine UB4 _ _ ?_); (simp; done)) | ((with_reducible refine UB43 _ _ ?_); (simp; done)) | ((with_reducible refine UB345 _ _ ?_); (simp; done)) | (with_reducible refine UB.alloc ?_ _) | ((with_reducible apply UB.below); rotate_left; assumption))); done)); rintro e w4 ⟨rfl, B4⟩)))
      all_goals
        go_wp2_with fail
        go_ret
        refine ⟨ret_str (by simp), hB1.trans ((NIn.below (b := W0) (A := some a) (A' := A') (ns := ns) (ps := ps) ?_).mono (by omega))⟩
        (repeat (first | (with_reducible exact hNI) | (with_reducible refine NIn.drew ?_) | (with_reducible refine NIn.alloc ?_ _) | ((with_reducible apply NIn.call); rotate_left; assumption)))
    · have HT : Hid (Tr.tr ns i = .tms (Tr.tr ns ns[i].a.toNat) ns[i].mn ns[i].mx) := Lib.hid (Tr.tr_tms hd hn hk)
      have e : Tr.below ns[i] = [ns[i].a] := by unfold Tr.below; simp [hk]
      have ha := hch ns[i].a (by simp [e])
      obtain ⟨x, hx⟩ := Int.eq_ofNat_of_zero_le ha.1
      rw [HT.out]
      have HX := Lib.hid (ih x (by omega) (by omega))
      have xl : x < ns.length := by omega
      have KX := Lib.hid (Tr.kind_of hP.good xl)
      have zx := Tr.pn_short hP.good xl
      have hax := fun g w1 h1 h2 => around_any c c' x xl HX.out [3, 4, 5] (by decide) g w1 h1 h2
      have ex : (List.any [3, 4, 5] fun v => ((ns[x].k : Int) == v)) = ((Tr.tr ns x).isSeq || (Tr.tr ns x).isAlt || (Tr.tr ns x).isTms) := by
        rw [KX.out.1, KX.out.2.1, KX.out.2.2]
        by_cases h3 : ns[x].k = 3
        · rw [h3]; decide
        · by_cases h4 : ns[x].k = 4
          · rw [h4]; decide
          · by_cases h5 : ns[x].k = 5
            · rw [h5]; decide
            · have g3 : ¬ ((ns[x].k : Int) = 3) := by omega
              have g4 : ¬ ((ns[x].k : Int) = 4) := by omega
              have g5 : ¬ ((ns[x].k : Int) = 5) := by omega
              simp [h3, h4, h5, g3, g4, g5]
      rw [ex] at hax
      have HAX : Hid (∀ g w1, PrAt w1 (some a) A' ns ps → UB w1 g [3, 4, 5] → Calls Tryd.prog 45 #[.agg #[.slice (some a) ns.length c, .slice A' ps.length c'], .int .i64 x, .slice (some ⟨g, 0, none⟩) 3 3] w1 fun e w' => e = .returned (.string ⟨(Tr.wr ((Tr.tr ns x).isSeq || (Tr.tr ns x).isAlt || (Tr.tr ns x).isTms) (Tr.pn (Tr.tr ns x))).toArray⟩) ∧ Below w1.heap.size w1 w') := Lib.hid hax
      have htm := fun w1 h => times_any ns[i] (Tr.may_times hmay) w1 h
      have l1 := Tr.wr_len ((Tr.tr ns x).isSeq || (Tr.tr ns x).isAlt || (Tr.tr ns x).isTms) (Tr.pn (Tr.tr ns x))
      have l2 := Tr.ptm_len ns[i].mn ns[i].mx
      have HT2 : Hid (Tr.pn (.tms (Tr.tr ns ns[i].a.toNat) ns[i].mn ns[i].mx) = Tr.wr ((Tr.tr ns x).isSeq || (Tr.tr ns x).isAlt || (Tr.tr ns x).isTms) (Tr.pn (Tr.tr ns x)) ++ Tr.ptm ns[i].mn ns[i].mx) := Lib.hid (by rw [hx]; rfl)
      generalize Tr.wr ((Tr.tr ns x).isSeq || (Tr.tr ns x).isAlt || (Tr.tr ns x).isTms) (Tr.pn (Tr.tr ns x)) = px at HAX l1 HT2
      rw [HT2.out]
      have HPR := Lib.hid hP
      generalize ns[i] = n at *
      rw [hk, hx] at htm
      rw [hk] at c0
      rw [hx] at c5
      generalize Tr.ptm n.mn n.mx = py at htm l2 HT2 ⊢
      have HAY : Hid (∀ w1, Laid w1 → Calls Tryd.prog 46 #[.agg #[.int .u8 5, .int .u64 n.s.a, .int .u64 n.s.b, .int .u64 n.s.c, .int .u64 n.s.d, .int .i64 x, .int .i64 n.b, .int .i64 n.mn, .int .i64 n.mx]] w1 fun e w' => e = .returned (.string ⟨(py).toArray⟩) ∧ Below w1.heap.size w1 w') := Lib.hid htm
      have hz : ¬ 9223372036854775807 < px.length + py.length := by omega
      have hB1 : Below w.heap.size w ((w.alloc (.cells #[.slice (some a) ns.length c, .slice A' ps.length c'] 33)).alloc (.cells #[.int .u8 5, .int .u64 n.s.a, .int .u64 n.s.b, .int .u64 n.s.c, .int .u64 n.s.d, .int .i64 x, .int .i64 n.b, .int .i64 n.mn, .int .i64 n.mx] 27)) := by (repeat (first | exact Below.refl _ _ | assumption | refine Below.drew ?_ | refine Below.alloc ?_ (by first | exact Nat.le_refl _ | (simp; done) | (simp; omega) | omega) _ | refine Below.setCell ?_ (by first | exact Nat.le_refl _ | (simp; done) | (simp; omega) | omega) _))
      have hNC : (fun z : World => z.cell? ⟨w.heap.size, 0, none⟩ = some (.slice (some a) ns.length c) ∧ z.cell? ⟨w.heap.size, 1, none⟩ = some (.slice A' ps.length c') ∧ z.cell? ⟨w.heap.size + 1, 0, none⟩ = some (.int .u8 5) ∧ z.cell? ⟨w.heap.size + 1, 1, none⟩ = some (.int .u64 n.s.a) ∧ z.cell? ⟨w.heap.size + 1, 2, none⟩ = some (.int .u64 n.s.b) ∧ z.cell? ⟨w.heap.size + 1, 3, none⟩ = some (.int .u64 n.s.c) ∧ z.cell? ⟨w.heap.size + 1, 4, none⟩ = some (.int .u64 n.s.d) ∧ z.cell? ⟨w.heap.size + 1, 5, none⟩ = some (.int .i64 x) ∧ z.cell? ⟨w.heap.size + 1, 6, none⟩ = some (.int .i64 n.b) ∧ z.cell? ⟨w.heap.size + 1, 7, none⟩ = some (.int .i64 n.mn) ∧ z.cell? ⟨w.heap.size + 1, 8, none⟩ = some (.int .i64 n.mx)) ((w.alloc (.cells #[.slice (some a) ns.length c, .slice A' ps.length c'] 33)).alloc (.cells #[.int .u8 5, .int .u64 n.s.a, .int .u64 n.s.b, .int .u64 n.s.c, .int .u64 n.s.d, .int .i64 x, .int .i64 n.b, .int .i64 n.mn, .int .i64 n.mx] 27)) := by simp
      have hNI : NIn ((w.alloc (.cells #[.slice (some a) ns.length c, .slice A' ps.length c'] 33)).alloc (.cells #[.int .u8 5, .int .u64 n.s.a, .int .u64 n.s.b, .int .u64 n.s.c, .int .u64 n.s.d, .int .i64 x, .int .i64 n.b, .int .i64 n.mn, .int .i64 n.mx] 27)) (some a) A' ns ps ((w.alloc (.cells #[.slice (some a) ns.length c, .slice A' ps.length c'] 33)).alloc (.cells #[.int .u8 5, .int .u64 n.s.a, .int .u64 n.s.b, .int .u64 n.s.c, .int .u64 n.s.d, .int .i64 x, .int .i64 n.b, .int .i64 n.mn, .int .i64 n.mx] 27)) := ⟨Below.refl _ _, hP.below hB1⟩
      have hbs : w.heap.size + 1 < ((w.alloc (.cells #[.slice (some a) ns.length c, .slice A' ps.length c'] 33)).alloc (.cells #[.int .u8 5, .int .u64 n.s.a, .int .u64 n.s.b, .int .u64 n.s.c, .int .u64 n.s.d, .int .i64 x, .int .i64 n.b, .int .i64 n.mn, .int .i64 n.mx] 27)).heap.size := by simp
      clear hn hmem hNA hk hmay hwk hch hd ih hP KX HX hax ex htm
      go_enter Tryd.func25, Tryd.ntmps25
      go_wp2_with fail
      clear c0 c1 c2 c3 c4 c5 c6 c7 c8
      generalize ((w.alloc (.cells #[.slice (some a) ns.length c, .slice A' ps.length c'] 33)).alloc (.cells #[.int .u8 5, .int .u64 n.s.a, .int .u64 n.s.b, .int .u64 n.s.c, .int .u64 n.s.d, .int .i64 x, .int .i64 n.b, .int .i64 n.mn, .int .i64 n.mx] 27)) = W0 at hB1 hNC hNI hbs ⊢
      have HC : Hid (∀ z, NIn W0 (some a) A' ns ps z → z.cell? ⟨w.heap.size, 0, none⟩ = some (.slice (some a) ns.length c) ∧ z.cell? ⟨w.heap.size, 1, none⟩ = some (.slice A' ps.length c') ∧ z.cell? ⟨w.heap.size + 1, 0, none⟩ = some (.int .u8 5) ∧ z.cell? ⟨w.heap.size + 1, 1, none⟩ = some (.int .u64 n.s.a) ∧ z.cell? ⟨w.heap.size + 1, 2, none⟩ = some (.int .u64 n.s.b) ∧ z.cell? ⟨w.heap.size + 1, 3, none⟩ = some (.int .u64 n.s.c) ∧ z.cell? ⟨w.heap.size + 1, 4, none⟩ = some (.int .u64 n.s.d) ∧ z.cell? ⟨w.heap.size + 1, 5, none⟩ = some (.int .i64 x) ∧ z.cell? ⟨w.heap.size + 1, 6, none⟩ = some (.int .i64 n.b) ∧ z.cell? ⟨w.heap.size + 1, 7, none⟩ = some (.int .i64 n.mn) ∧ z.cell? ⟨w.heap.size + 1, 8, none⟩ = some (.int .i64 n.mx)) := Lib.hid fun z hz => ⟨(hz.below.cell (p := ⟨w.heap.size, 0, none⟩) (by show w.heap.size < _; omega)).trans hNC.1, (hz.below.cell (p := ⟨w.heap.size, 1, none⟩) (by show w.heap.size < _; omega)).trans hNC.2.1, (hz.below.cell (p := ⟨w.heap.size + 1, 0, none⟩) hbs).trans hNC.2.2.1, (hz.below.cell (p := ⟨w.heap.size + 1, 1, none⟩) hbs).trans hNC.2.2.2.1, (hz.below.cell (p := ⟨w.heap.size + 1, 2, none⟩) hbs).trans hNC.2.2.2.2.1, (hz.below.cell (p := ⟨w.heap.size + 1, 3, none⟩) hbs).trans hNC.2.2.2.2.2.1, (hz.below.cell (p := ⟨w.heap.size + 1, 4, none⟩) hbs).trans hNC.2.2.2.2.2.2.1, (hz.below.cell (p := ⟨w.heap.size + 1, 5, none⟩) hbs).trans hNC.2.2.2.2.2.2.2.1, (hz.below.cell (p := ⟨w.heap.size + 1, 6, none⟩) hbs).trans hNC.2.2.2.2.2.2.2.2.1, (hz.below.cell (p := ⟨w.heap.size + 1, 7, none⟩) hbs).trans hNC.2.2.2.2.2.2.2.2.2.1, (hz.below.cell (p := ⟨w.heap.size + 1, 8, none⟩) hbs).trans hNC.2.2.2.2.2.2.2.2.2.2⟩
      have hNC0 := HC.out _ hNI
      clear hNC
      go_region_held3 (fun z => NIn W0 (some a) A' ns ps z ∧ z.cell? ⟨w.heap.size, 0, none⟩ = some (.slice (some a) ns.length c) ∧ z.cell? ⟨w.heap.size, 1, none⟩ = some (.slice A' ps.length c') ∧ z.cell? ⟨w.heap.size + 1, 0, none⟩ = some (.int .u8 5) ∧ z.cell? ⟨w.heap.size + 1, 1, none⟩ = some (.int .u64 n.s.a) ∧ z.cell? ⟨w.heap.size + 1, 2, none⟩ = some (.int .u64 n.s.b) ∧ z.cell? ⟨w.heap.size + 1, 3, none⟩ = some (.int .u64 n.s.c) ∧ z.cell? ⟨w.heap.size + 1, 4, none⟩ = some (.int .u64 n.s.d) ∧ z.cell? ⟨w.heap.size + 1, 5, none⟩ = some (.int .i64 x) ∧ z.cell? ⟨w.heap.size + 1, 6, none⟩ = some (.int .i64 n.b) ∧ z.cell? ⟨w.heap.size + 1, 7, none⟩ = some (.int .i64 n.mn) ∧ z.cell? ⟨w.heap.size + 1, 8, none⟩ = some (.int .i64 n.mx)) ((refine ⟨?_, HC.out _ ?_⟩ <;> (repeat (first | (with_reducible exact hNI) | (with_reducible refine NIn.drew ?_) | (with_reducible refine NIn.alloc ?_ _) | ((with_reducible apply NIn.call); rotate_left; assumption))))) ((first | (go_at_call 45; (with_reducible refine (HAX.out _ _ ?_ ?_).mono ?_); (focus (refine NIn.pr (b := W0) ?_; (repeat (first | (with_reducible exact hNI) | (with_reducible refine NIn.drew ?_) | (with_reducible refine NIn.alloc ?_ _) | ((with_reducible apply NIn.call); rotate_left; assumption))); done)); (focus ((repeat (first | (with_reducible refine UB.drew ?_) | ((with_reducible refine UB4 _ _ ?_); (simp; done)) | ((with_reducible refine UB43 _ _ ?_); (simp; done)) | ((with_reducible refine UB345 _ _ ?_); (simp; done)) | (with_reducible refine UB.alloc ?_ _) | ((with_reducible apply UB.below); rotate_left; assumption))); done)); rintro e w3 ⟨rfl, B3⟩) | (go_at_call 46; (with_reducible refine (HAY.out _ ?_).mono ?_); (focus (refine PrAt.laid (A := some a) (A' := A') (ns := ns) (ps := ps) ?_; refine NIn.pr (b := W0) ?_; (repeat (first | (with_reducible exact hNI) | (with_reducible refine NIn.drew ?_) | (with_reducible refine NIn.alloc ?_ _) | ((with_reducible apply NIn.call); rotate_left; assumption))); done)); rintro e w4 ⟨rfl, B4⟩)))
      all_goals
        go_wp2_with fail
        go_ret
        refine ⟨rfl, hB1.trans ((NIn.below (b := W0) (A := some a) (A' := A') (ns := ns) (ps := ps) ?_).mono (by omega))⟩
        (repeat (first | (with_reducible exact hNI) | (with_reducible refine NIn.drew ?_) | (with_reducible refine NIn.alloc ?_ _) | ((with_reducible apply NIn.call); rotate_left; assumption)))
theorem node_any (A A' : Option Addr) (ns : List Nd) (ps : List Pt) (c c' : Nat) (hw : Tr.Words ns) (i : Nat) (hi : i < ns.length) : NodeSaid A A' ns ps c c' i := node_f A A' ns ps c c' hw (i + 1) i (by omega) hi
end Go.Proofs.YtebkaajnnjfhjaaDoor
