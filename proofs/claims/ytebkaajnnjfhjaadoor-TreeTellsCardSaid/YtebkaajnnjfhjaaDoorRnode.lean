/-
  The document's Node: walked.
-/
import Derived.Test.YtebkaajnnjfhjaaDoorDeep
import Derived.Test.YtebkaajnnjfhjaaDoorRset
namespace Go.Proofs.YtebkaajnnjfhjaaDoor
set_option linter.unusedVariables false
set_option linter.unusedSimpArgs false
open Go.RowKit Go.Proofs.YtebkaajnnjfhjaaDoorW.PrintWords
open Tr (Nd Pt)

def RNodeSaid (A A' : Option Addr) (ns : List Nd) (ps : List Pt) (c c' i : Nat) : Prop := ∀ w, TreeAt w A A' ns ps → Calls Tryd.prog 37 #[.agg #[.slice A ns.length c, .slice A' ps.length c'], .int .i64 i] w fun e w' => e = .returned (.string ⟨(Tr.pn (Tr.tr ns i)).toArray⟩) ∧ Below w.heap.size w w'
theorem kinds_of {W : World} {a : Addr} {A' : Option Addr} {ns : List Nd} {ps : List Pt} (h : TreeAt W (some a) A' ns ps) (x : Nat) (hx : x < ns.length) : W.cell? (a.add (x * 9)) = some (.int .u8 ns[x].k) := by
  obtain ⟨a', e, _, hN⟩ := h.nodes x hx
  cases e
  exact hN.c0
theorem dgt_eq (n : Int) (h : 0 ≤ n) : UInt8.ofNat (48 + n).toNat = Tr.dgt n := by
  unfold Tr.dgt
  congr 1
  omega
theorem cv_3 (W : World) (x y : Int) : (convert 46 9 (.slice (some ⟨W.heap.size + 1, 0, none⟩) 1 1)).run Tryd.prog ((W.alloc (.cells #[.int .u8 x] 5)).alloc (.cells #[.int .u8 y] 5)) = .ok (.string ⟨[UInt8.ofNat y.toNat].toArray⟩) ((W.alloc (.cells #[.int .u8 x] 5)).alloc (.cells #[.int .u8 y] 5)) := by
  have h : (W.alloc (.cells #[.int .u8 x] 5)).heap.size = W.heap.size + 1 := by simp
  rw [← h]
  exact cv_1 _ y
set_option maxRecDepth 100000 in
set_option maxHeartbeats 20000000 in
theorem rnode_f (A A' : Option Addr) (ns : List Nd) (ps : List Pt) (c c' : Nat) (hG : Tr.Good ns ps) (hw : Tr.Words ns) (f : Nat) : ∀ i, i < f → i < ns.length → RNodeSaid A A' ns ps c c' i := by
  induction f with
  | zero => intro i h; omega
  | succ f ih =>
    intro i hf hi w hP
    have hd : Tr.Dn ns := hG.dn
    have hn : ns[i]? = some ns[i] := List.getElem?_eq_getElem hi
    have hmem := List.getElem_mem hi
    obtain ⟨a, ha, hab, hNA⟩ := hP.nodes i hi
    have hle := hG.n2
    have hmay := hG.my _ hmem
    have hch := hd i _ hn
    subst ha
    have hB0 : Below w.heap.size w (w.alloc (.cells #[.slice (some a) ns.length c, .slice A' ps.length c'] 33)) := by (repeat (first | exact Below.refl _ _ | assumption | refine Below.drew ?_ | refine Below.alloc ?_ (by first | exact Nat.le_refl _ | (simp; done) | (simp; omega) | omega) _ | refine Below.setCell ?_ (by first | exact Nat.le_refl _ | (simp; done) | (simp; omega) | omega) _))
    obtain ⟨c0, c1, c2, c3, c4, c5, c6, c7, c8⟩ := hNA.below hB0 (by rw [add_block]; exact hab)
    have hset := fun h => Tr.tr_set hn h
    have hseq := fun h => Tr.tr_seq hd hn h
    have halt := fun h => Tr.tr_alt hd hn h
    have htms := fun h => Tr.tr_tms hd hn h
    have hemp := fun h2 h3 h4 h5 => Tr.tr_emp hn h2 h3 h4 h5
    have hwk := hw _ hmem
    generalize ns[i] = n at *
    have hB2 : Below w.heap.size w ((w.alloc (.cells #[.slice (some a) ns.length c, .slice A' ps.length c'] 33)).alloc (.cells #[.int .u8 n.k, .int .u64 n.s.a, .int .u64 n.s.b, .int .u64 n.s.c, .int .u64 n.s.d, .int .i64 n.a, .int .i64 n.b, .int .i64 n.mn, .int .i64 n.mx] 27)) := by (repeat (first | exact Below.refl _ _ | assumption | refine Below.drew ?_ | refine Below.alloc ?_ (by first | exact Nat.le_refl _ | (simp; done) | (simp; omega) | omega) _ | refine Below.setCell ?_ (by first | exact Nat.le_refl _ | (simp; done) | (simp; omega) | omega) _))
    have HTW : Hid (∀ z, Below ((w.alloc (.cells #[.slice (some a) ns.length c, .slice A' ps.length c'] 33)).alloc (.cells #[.int .u8 n.k, .int .u64 n.s.a, .int .u64 n.s.b, .int .u64 n.s.c, .int .u64 n.s.d, .int .i64 n.a, .int .i64 n.b, .int .i64 n.mn, .int .i64 n.mx] 27)).heap.size ((w.alloc (.cells #[.slice (some a) ns.length c, .slice A' ps.length c'] 33)).alloc (.cells #[.int .u8 n.k, .int .u64 n.s.a, .int .u64 n.s.b, .int .u64 n.s.c, .int .u64 n.s.d, .int .i64 n.a, .int .i64 n.b, .int .i64 n.mn, .int .i64 n.mx] 27)) z → TreeAt z (some a) A' ns ps ∧ Below w.heap.size w z) := Lib.hid fun z hz => ⟨hP.below (bthen hB2 hz), bthen hB2 hz⟩
    have HB2 := Lib.hid hB2
    clear hB0 hB2 hn hmem
    rcases Tr.may_kind hmay with hk | hk | hk | hk | hk
    · have HV : Hid (Tr.pn (Tr.tr ns i) = [40, 41]) := Lib.hid (by rw [hemp (by omega) (by omega) (by omega) (by omega)]; rfl)
      have t1 : ((n.k : Int) == 1) = true := by rw [hk]; rfl
      have t2 : ((n.k : Int) == 2) = false := by rw [hk]; rfl
      have t3 : ((n.k : Int) == 3) = false := by rw [hk]; rfl
      have t4 : ((n.k : Int) == 4) = false := by rw [hk]; rfl
      clear hmay hch hset hseq halt htms hemp hk ih hab hwk hP hNA
      go_enter Tryd.func37, Tryd.ntmps37
      go_wp2_with fail
      go_ret
      exact ⟨by rw [HV.out]; rfl, HB2.out⟩
    · have HV : Hid (Tr.pn (Tr.tr ns i) = Tr.pset n.s) := Lib.hid (by rw [hset hk]; rfl)
      have t1 : ((n.k : Int) == 1) = false := by rw [hk]; rfl
      have t2 : ((n.k : Int) == 2) = true := by rw [hk]; rfl
      have t3 : ((n.k : Int) == 3) = false := by rw [hk]; rfl
      have t4 : ((n.k : Int) == 4) = false := by rw [hk]; rfl
      have HS := Lib.hid (fun w1 => rset_any n.s hwk w1)
      clear hmay hch hset hseq halt htms hemp hk ih hab hwk hP hNA
      go_enter Tryd.func37, Tryd.ntmps37
      go_wp2_with fail
      refine (HS.out _).mono ?_
      rintro e w1 ⟨rfl, B1⟩
      have HB3 := Lib.hid (HTW.out _ B1).2
      clear B1
      go_wp2_with fail
      go_ret
      exact ⟨by rw [HV.out]; rfl, HB3.out⟩
    · have HV : Hid (Tr.pn (Tr.tr ns i) = Tr.wr (Tr.tr ns n.a.toNat).isAlt (Tr.pn (Tr.tr ns n.a.toNat)) ++ Tr.wr ((Tr.tr ns n.b.toNat).isAlt || (Tr.tr ns n.b.toNat).isSeq) (Tr.pn (Tr.tr ns n.b.toNat))) := Lib.hid (by rw [hseq hk]; rfl)
      have e : Tr.below n = [n.a, n.b] := by unfold Tr.below; simp [hk]
      have ha := hch n.a (by simp [e])
      have hb := hch n.b (by simp [e])
      obtain ⟨x, hx⟩ := Int.eq_ofNat_of_zero_le ha.1
      obtain ⟨y, hy⟩ := Int.eq_ofNat_of_zero_le hb.1
      have xl : x < ns.length := by omega
      have yl : y < ns.length := by omega
      have IX := ih x (by omega) (by omega)
      have IY := ih y (by omega) (by omega)
      unfold RNodeSaid at IX IY
      have KX := Tr.kind_of hG xl
      have KY := Tr.kind_of hG yl
      have l1 := Tr.pn_short hG xl
      have l2 := Tr.pn_short hG yl
      have HZ : Hid (∀ z, Below ((w.alloc (.cells #[.slice (some a) ns.length c, .slice A' ps.length c'] 33)).alloc (.cells #[.int .u8 n.k, .int .u64 n.s.a, .int .u64 n.s.b, .int .u64 n.s.c, .int .u64 n.s.d, .int .i64 n.a, .int .i64 n.b, .int .i64 n.mn, .int .i64 n.mx] 27)).heap.size ((w.alloc (.cells #[.slice (some a) ns.length c, .slice A' ps.length c'] 33)).alloc (.cells #[.int .u8 n.k, .int .u64 n.s.a, .int .u64 n.s.b, .int .u64 n.s.c, .int .u64 n.s.d, .int .i64 n.a, .int .i64 n.b, .int .i64 n.mn, .int .i64 n.mx] 27)) z → z.cell? ⟨w.heap.size, 0, none⟩ = some (.slice (some a) ns.length c) ∧ z.cell? ⟨w.heap.size, 1, none⟩ = some (.slice A' ps.length c') ∧ z.cell? ⟨w.heap.size + 1, 5, none⟩ = some (.int .i64 x) ∧ z.cell? ⟨w.heap.size + 1, 6, none⟩ = some (.int .i64 y) ∧ z.cell? (a.add (x * 9)) = some (.int .u8 ns[x].k) ∧ z.cell? (a.add (y * 9)) = some (.int .u8 ns[y].k)) := by
        refine Lib.hid fun z hz => ?_
        have k1 := blk_below (blk_alloc (blk_new w (.cells #[.slice (some a) ns.length c, .slice A' ps.length c'] 33)) (.cells #[.int .u8 n.k, .int .u64 n.s.a, .int .u64 n.s.b, .int .u64 n.s.c, .int .u64 n.s.d, .int .i64 n.a, .int .i64 n.b, .int .i64 n.mn, .int .i64 n.mx] 27)) hz
        have k2 := blk_below (blk_new_at (w.alloc (.cells #[.slice (some a) ns.length c, .slice A' ps.length c'] 33)) (.cells #[.int .u8 n.k, .int .u64 n.s.a, .int .u64 n.s.b, .int .u64 n.s.c, .int .u64 n.s.d, .int .i64 n.a, .int .i64 n.b, .int .i64 n.mn, .int .i64 n.mx] 27) (w.heap.size + 1) (by simp)) hz
        have hT := (HTW.out z hz).1
        exact ⟨(blk_cell k1 0).trans rfl, (blk_cell k1 1).trans rfl, (blk_cell k2 5).trans (by rw [← hx]; rfl), (blk_cell k2 6).trans (by rw [← hy]; rfl), kinds_of hT x xl, kinds_of hT y yl⟩
      have hkx : (((ns[x].k : Nat) : Int) == 4) = (Tr.tr ns x).isAlt := by rw [KX.1, Bool.eq_iff_iff, beq_iff_eq, decide_eq_true_iff]; omega
      have hky : (((ns[y].k : Nat) : Int) == 4) = (Tr.tr ns y).isAlt := by rw [KY.1, Bool.eq_iff_iff, beq_iff_eq, decide_eq_true_iff]; omega
      have hky3 : (((ns[y].k : Nat) : Int) == 3) = (Tr.tr ns y).isSeq := by rw [KY.2.1, Bool.eq_iff_iff, beq_iff_eq, decide_eq_true_iff]; omega
      have t1 : ((n.k : Int) == 1) = false := by rw [hk]; rfl
      have t2 : ((n.k : Int) == 2) = false := by rw [hk]; rfl
      have t3 : ((n.k : Int) == 3) = true := by rw [hk]; rfl
      have t4 : ((n.k : Int) == 4) = false := by rw [hk]; rfl
      rw [hx, hy] at HV
      simp only [Int.toNat_natCast] at HV
      generalize (Tr.tr ns x).isAlt = bx at hkx HV
      generalize Tr.pn (Tr.tr ns x) = px at IX l1 HV
      generalize (Tr.tr ns y).isAlt = by4 at hky HV
      generalize (Tr.tr ns y).isSeq = by3 at hky3 HV
      generalize Tr.pn (Tr.tr ns y) = py at IY l2 HV
      generalize ns[x].k = kx at hkx HZ
      generalize ns[y].k = ky at hky hky3 HZ
      have HX := Lib.hid IX
      have HY := Lib.hid IY
      have HWX := Lib.hid (fun (v : Bool) w1 => wrap_any px v (by omega) w1)
      have HWY := Lib.hid (fun (v : Bool) w1 => wrap_any py v (by omega) w1)
      have hwx := fun v => Tr.wr_len v px
      have hwy := fun v => Tr.wr_len v py
      have i1 : (x : Int) < ns.length := by omega
      have i2 : (y : Int) < ns.length := by omega
      clear hmay hch hset hseq halt htms hemp hk ih hab hwk hP hNA e ha hb hx hy IX IY KX KY
      have hwx1 := hwx bx
      have hwy1 := hwy (by4 || by3)
      clear hwx hwy
      have hz : ¬ 9223372036854775807 < (Tr.wr bx px).length + (Tr.wr (by4 || by3) py).length := by omega
      cases by4
      · rw [Bool.false_or] at hz hwy1
        go_enter Tryd.func37, Tryd.ntmps37
        go_wp2_with fail
        clear c0 c1 c2 c3 c4 c5 c6 c7 c8
        generalize ((w.alloc (.cells #[.slice (some a) ns.length c, .slice A' ps.length c'] 33)).alloc (.cells #[.int .u8 n.k, .int .u64 n.s.a, .int .u64 n.s.b, .int .u64 n.s.c, .int .u64 n.s.d, .int .i64 n.a, .int .i64 n.b, .int .i64 n.mn, .int .i64 n.mx] 27)) = W0 at HTW HZ HB2 ⊢
        have K1 := HZ.out _ (Below.refl _ _)
        go_region_held3 (fun z => Below W0.heap.size W0 z ∧ z.cell? ⟨w.heap.size, 0, none⟩ = some (.slice (some a) ns.length c) ∧ z.cell? ⟨w.heap.size, 1, none⟩ = some (.slice A' ps.length c') ∧ z.cell? ⟨w.heap.size + 1, 5, none⟩ = some (.int .i64 x) ∧ z.cell? ⟨w.heap.size + 1, 6, none⟩ = some (.int .i64 y) ∧ z.cell? (a.add (x * 9)) = some (.int .u8 kx) ∧ z.cell? (a.add (y * 9)) = some (.int .u8 ky)) ((refine ⟨?_, HZ.out _ ?_⟩ <;> (repeat (first | (with_reducible exact Below.refl _ _) | (with_reducible refine Below.drew ?_) | (with_reducible refine bl_drewN ?_ _) | ((with_reducible apply bthen); rotate_left; assumption))))) ((first | (go_at_call 37; first | ((with_reducible refine (HX.out _ ?_).mono ?_); (focus (refine (HTW.out _ ?_).1; (repeat (first | (with_reducible exact Below.refl _ _) | (with_reducible refine Below.drew ?_) | (with_reducible refine bl_drewN ?_ _) | ((with_reducible apply bthen); rotate_left; assumption))); done)); rintro e w3 ⟨rfl, B3⟩) | ((with_reducible refine (HY.out _ ?_).mono ?_); (focus (refine (HTW.out _ ?_).1; (repeat (first | (with_reducible exact Below.refl _ _) | (with_reducible refine Below.drew ?_) | (with_reducible refine bl_drewN ?_ _) | ((with_reducible apply bthen); rotate_left; assumption))); done)); rintro e w4 ⟨rfl, B4⟩)) | (go_at_call 55; first | ((with_reducible refine (HWX.out _ _).mono ?_); rintro e w5 ⟨rfl, B5⟩) | ((with_reducible refine (HWY.out _ _).mono ?_); rintro e w6 ⟨rfl, B6⟩))))
        all_goals
          go_wp2_with fail
          go_ret
          refine ⟨ret_str (by rw [HV.out]; simp), (HTW.out _ ?_).2⟩
          (repeat (first | (with_reducible exact Below.refl _ _) | (with_reducible refine Below.drew ?_) | (with_reducible refine bl_drewN ?_ _) | ((with_reducible apply bthen); rotate_left; assumption)))
      · rw [Bool.true_or] at hz hwy1
        go_enter Tryd.func37, Tryd.ntmps37
        go_wp2_with fail
        clear c0 c1 c2 c3 c4 c5 c6 c7 c8
        generalize ((w.alloc (.cells #[.slice (some a) ns.length c, .slice A' ps.length c'] 33)).alloc (.cells #[.int .u8 n.k, .int .u64 n.s.a, .int .u64 n.s.b, .int .u64 n.s.c, .int .u64 n.s.d, .int .i64 n.a, .int .i64 n.b, .int .i64 n.mn, .int .i64 n.mx] 27)) = W0 at HTW HZ HB2 ⊢
        have K1 := HZ.out _ (Below.refl _ _)
        refine wp_region_held_drew (S := (fun z => Below W0.heap.size W0 z ∧ z.cell? ⟨w.heap.size, 0, none⟩ = some (.slice (some a) ns.length c) ∧ z.cell? ⟨w.heap.size, 1, none⟩ = some (.slice A' ps.length c') ∧ z.cell? ⟨w.heap.size + 1, 5, none⟩ = some (.int .i64 x) ∧ z.cell? ⟨w.heap.size + 1, 6, none⟩ = some (.int .i64 y) ∧ z.cell? (a.add (x * 9)) = some (.int .u8 kx) ∧ z.cell? (a.add (y * 9)) = some (.int .u8 ky))) (by kernel_rfl) ?_ (fun hHeld => ?_)
        · (try dsimp only); (refine ⟨?_, HZ.out _ ?_⟩ <;> (repeat (first | (with_reducible exact Below.refl _ _) | (with_reducible refine Below.drew ?_) | (with_reducible refine bl_drewN ?_ _) | ((with_reducible apply bthen); rotate_left; assumption))))
        refine wpAnyH_take (i := 0) (v := ?_) rfl (by kernel_rfl) (by kernel_rfl) (by kernel_rfl) (fun _ _ _ h => h) (Or.inl ⟨by rfl, ?_⟩) (by assumption) ?_
        rotate_left
        · (intro w9 hSw; (try dsimp only at hSw); go_simp; first | done | with_reducible rfl)
        try simp only [Array.getInternal_eq_getElem, List.getElem_toArray, List.getElem_cons_zero, List.getElem_cons_succ, Act.put, List.setIfInBounds_toArray, List.set_cons_zero, List.set_cons_succ]
        refine wpAnyH_take (i := 1) (v := ?_) rfl (by kernel_rfl) (by kernel_rfl) (by kernel_rfl) (fun _ _ _ h => h) (Or.inl ⟨by rfl, ?_⟩) (by assumption) ?_
        rotate_left
        · (intro w9 hSw; (try dsimp only at hSw); go_simp; first | done | with_reducible rfl)
        try simp only [Array.getInternal_eq_getElem, List.getElem_toArray, List.getElem_cons_zero, List.getElem_cons_succ, Act.put, List.setIfInBounds_toArray, List.set_cons_zero, List.set_cons_succ]
        refine wpAnyH_take (i := 2) (v := ?_) rfl (by kernel_rfl) (by kernel_rfl) (by kernel_rfl) (fun _ _ _ h => h) (Or.inl ⟨by rfl, ?_⟩) (by assumption) ?_
        rotate_left
        · (intro w9 hSw; (try dsimp only at hSw); go_simp; first | done | with_reducible rfl)
        try simp only [Array.getInternal_eq_getElem, List.getElem_toArray, List.getElem_cons_zero, List.getElem_cons_succ, Act.put, List.setIfInBounds_toArray, List.set_cons_zero, List.set_cons_succ]
        refine wpAnyH_take (i := 4) (v := ?_) rfl (by kernel_rfl) (by kernel_rfl) (by kernel_rfl) (fun _ _ _ h => h) (Or.inl ⟨by rfl, ?_⟩) (by assumption) ?_
        rotate_left
        · (intro w9 hSw; (try dsimp only at hSw); go_simp; first | done | with_reducible rfl)
        try simp only [Array.getInternal_eq_getElem, List.getElem_toArray, List.getElem_cons_zero, List.getElem_cons_succ, Act.put, List.setIfInBounds_toArray, List.set_cons_zero, List.set_cons_succ]
        refine wpAnyH_take (i := 5) (v := ?_) rfl (by kernel_rfl) (by kernel_rfl) (by kernel_rfl) (fun _ _ _ h => h) (Or.inl ⟨by rfl, ?_⟩) (by assumption) ?_
        rotate_left
        · (intro w9 hSw; (try dsimp only at hSw); go_simp; first | done | with_reducible rfl)
        try simp only [Array.getInternal_eq_getElem, List.getElem_toArray, List.getElem_cons_zero, List.getElem_cons_succ, Act.put, List.setIfInBounds_toArray, List.set_cons_zero, List.set_cons_succ]
        refine wpAnyH_take (i := 6) (v := ?_) rfl (by kernel_rfl) (by kernel_rfl) (by kernel_rfl) (fun _ _ _ h => h) (Or.inl ⟨by rfl, ?_⟩) (by assumption) ?_
        rotate_left
        · (intro w9 hSw; (try dsimp only at hSw); go_simp; first | done | with_reducible rfl)
        try simp only [Array.getInternal_eq_getElem, List.getElem_toArray, List.getElem_cons_zero, List.getElem_cons_succ, Act.put, List.setIfInBounds_toArray, List.set_cons_zero, List.set_cons_succ]
        refine wpAnyH_take (i := 7) (v := ?_) rfl (by kernel_rfl) (by kernel_rfl) (by kernel_rfl) (fun _ _ _ h => h) (Or.inl ⟨by rfl, ?_⟩) (by assumption) ?_
        rotate_left
        · (intro w9 hSw; (try dsimp only at hSw); go_simp; first | done | with_reducible rfl)
        try simp only [Array.getInternal_eq_getElem, List.getElem_toArray, List.getElem_cons_zero, List.getElem_cons_succ, Act.put, List.setIfInBounds_toArray, List.set_cons_zero, List.set_cons_succ]
        refine wpAnyH_take (i := 8) (v := ?_) rfl (by kernel_rfl) (by kernel_rfl) (by kernel_rfl) (fun _ _ _ h => h) (Or.inl ⟨by rfl, ?_⟩) (by assumption) ?_
        rotate_left
        · (intro w9 hSw; (try dsimp only at hSw); go_simp; first | done | with_reducible rfl)
        try simp only [Array.getInternal_eq_getElem, List.getElem_toArray, List.getElem_cons_zero, List.getElem_cons_succ, Act.put, List.setIfInBounds_toArray, List.set_cons_zero, List.set_cons_succ]
        refine wpAnyH_take (i := 9) (v := ?_) rfl (by kernel_rfl) (by kernel_rfl) (by kernel_rfl) (fun _ _ _ h => h) (Or.inl ⟨by rfl, ?_⟩) (by assumption) ?_
        rotate_left
        · (intro w9 hSw; (try dsimp only at hSw); go_simp; first | done | with_reducible rfl)
        try simp only [Array.getInternal_eq_getElem, List.getElem_toArray, List.getElem_cons_zero, List.getElem_cons_succ, Act.put, List.setIfInBounds_toArray, List.set_cons_zero, List.set_cons_succ]
        refine wpAnyH_take (i := 10) (v := ?_) rfl (by kernel_rfl) (by kernel_rfl) (by kernel_rfl) (fun _ _ _ h => h) (Or.inl ⟨by rfl, ?_⟩) (by assumption) ?_
        rotate_left
        · (intro w9 hSw; (try dsimp only at hSw); go_simp; first | done | with_reducible rfl)
        try simp only [Array.getInternal_eq_getElem, List.getElem_toArray, List.getElem_cons_zero, List.getElem_cons_succ, Act.put, List.setIfInBounds_toArray, List.set_cons_zero, List.set_cons_succ]
        refine wpAnyH_take (i := 11) (v := ?_) rfl (by kernel_rfl) (by kernel_rfl) (by kernel_rfl) (fun _ _ _ h => h) (Or.inl ⟨by rfl, ?_⟩) (by assumption) ?_
        rotate_left
        · (intro w9 hSw; (try dsimp only at hSw); go_simp; first | done | with_reducible rfl)
        try simp only [Array.getInternal_eq_getElem, List.getElem_toArray, List.getElem_cons_zero, List.getElem_cons_succ, Act.put, List.setIfInBounds_toArray, List.set_cons_zero, List.set_cons_succ]
        refine wpAnyH_take (i := 13) (v := ?_) rfl (by kernel_rfl) (by kernel_rfl) (by kernel_rfl) (fun _ _ _ h => h) (Or.inl ⟨by rfl, ?_⟩) (by assumption) ?_
        rotate_left
        · (intro w9 hSw; (try dsimp only at hSw); go_simp; first | done | with_reducible rfl)
        try simp only [Array.getInternal_eq_getElem, List.getElem_toArray, List.getElem_cons_zero, List.getElem_cons_succ, Act.put, List.setIfInBounds_toArray, List.set_cons_zero, List.set_cons_succ]
        refine wpAnyH_take (i := 14) (v := ?_) rfl (by kernel_rfl) (by kernel_rfl) (by kernel_rfl) (fun _ _ _ h => h) (Or.inl ⟨by rfl, ?_⟩) (by assumption) ?_
        rotate_left
        · (intro w9 hSw; (try dsimp only at hSw); go_simp; first | done | with_reducible rfl)
        try simp only [Array.getInternal_eq_getElem, List.getElem_toArray, List.getElem_cons_zero, List.getElem_cons_succ, Act.put, List.setIfInBounds_toArray, List.set_cons_zero, List.set_cons_succ]
        refine wpAnyH_take (i := 15) (v := ?_) rfl (by kernel_rfl) (by kernel_rfl) (by kernel_rfl) (fun _ _ _ h => h) (Or.inl ⟨by rfl, ?_⟩) (by assumption) ?_
        rotate_left
        · (intro w9 hSw; (try dsimp only at hSw); go_simp; first | done | with_reducible rfl)
        try simp only [Array.getInternal_eq_getElem, List.getElem_toArray, List.getElem_cons_zero, List.getElem_cons_succ, Act.put, List.setIfInBounds_toArray, List.set_cons_zero, List.set_cons_succ]
        refine wpAnyH_take (i := 17) (v := ?_) rfl (by kernel_rfl) (by kernel_rfl) (by kernel_rfl) (fun _ _ _ h => h) (Or.inl ⟨by rfl, ?_⟩) (by assumption) ?_
        rotate_left
        · (intro w9 hSw; (try dsimp only at hSw); go_simp; first | done | with_reducible rfl)
        try simp only [Array.getInternal_eq_getElem, List.getElem_toArray, List.getElem_cons_zero, List.getElem_cons_succ, Act.put, List.setIfInBounds_toArray, List.set_cons_zero, List.set_cons_succ]
        refine wpAnyH_take (i := 18) (v := ?_) rfl (by kernel_rfl) (by kernel_rfl) (by kernel_rfl) (fun _ _ _ h => h) (Or.inl ⟨by rfl, ?_⟩) (by assumption) ?_
        rotate_left
        · (intro w9 hSw; (try dsimp only at hSw); go_simp; first | done | with_reducible rfl)
        try simp only [Array.getInternal_eq_getElem, List.getElem_toArray, List.getElem_cons_zero, List.getElem_cons_succ, Act.put, List.setIfInBounds_toArray, List.set_cons_zero, List.set_cons_succ]
        refine wpAnyH_take (i := 19) (v := ?_) rfl (by kernel_rfl) (by kernel_rfl) (by kernel_rfl) (fun _ _ _ h => h) (Or.inl ⟨by rfl, ?_⟩) (by assumption) ?_
        rotate_left
        · (intro w9 hSw; (try dsimp only at hSw); go_simp; first | done | with_reducible rfl)
        try simp only [Array.getInternal_eq_getElem, List.getElem_toArray, List.getElem_cons_zero, List.getElem_cons_succ, Act.put, List.setIfInBounds_toArray, List.set_cons_zero, List.set_cons_succ]
        refine wpAnyH_take (i := 20) (v := ?_) rfl (by kernel_rfl) (by kernel_rfl) (by kernel_rfl) (fun _ _ _ h => h) (Or.inl ⟨by rfl, ?_⟩) (by assumption) ?_
        rotate_left
        · (intro w9 hSw; (try dsimp only at hSw); go_simp; first | done | with_reducible rfl)
        try simp only [Array.getInternal_eq_getElem, List.getElem_toArray, List.getElem_cons_zero, List.getElem_cons_succ, Act.put, List.setIfInBounds_toArray, List.set_cons_zero, List.set_cons_succ]
        refine wpAnyH_take (i := 21) (v := ?_) rfl (by kernel_rfl) (by kernel_rfl) (by kernel_rfl) (fun _ _ _ h => h) (Or.inl ⟨by rfl, ?_⟩) (by assumption) ?_
        rotate_left
        · (intro w9 hSw; (try dsimp only at hSw); go_simp; first | done | with_reducible rfl)
        try simp only [Array.getInternal_eq_getElem, List.getElem_toArray, List.getElem_cons_zero, List.getElem_cons_succ, Act.put, List.setIfInBounds_toArray, List.set_cons_zero, List.set_cons_succ]
        refine wpAnyH_take (i := 22) (v := ?_) rfl (by kernel_rfl) (by kernel_rfl) (by kernel_rfl) (fun _ _ _ h => h) (Or.inl ⟨by rfl, ?_⟩) (by assumption) ?_
        rotate_left
        · (intro w9 hSw; (try dsimp only at hSw); go_simp; first | done | with_reducible rfl)
        try simp only [Array.getInternal_eq_getElem, List.getElem_toArray, List.getElem_cons_zero, List.getElem_cons_succ, Act.put, List.setIfInBounds_toArray, List.set_cons_zero, List.set_cons_succ]
        refine wpAnyH_take (i := 23) (v := ?_) rfl (by kernel_rfl) (by kernel_rfl) (by kernel_rfl) (fun _ _ _ h => h) (Or.inl ⟨by rfl, ?_⟩) (by assumption) ?_
        rotate_left
        · (intro w9 hSw; (try dsimp only at hSw); go_simp; first | done | with_reducible rfl)
        try simp only [Array.getInternal_eq_getElem, List.getElem_toArray, List.getElem_cons_zero, List.getElem_cons_succ, Act.put, List.setIfInBounds_toArray, List.set_cons_zero, List.set_cons_succ]
        refine wpAnyH_take (i := 24) (v := ?_) rfl (by kernel_rfl) (by kernel_rfl) (by kernel_rfl) (fun _ _ _ h => h) (Or.inl ⟨by rfl, ?_⟩) (by assumption) ?_
        rotate_left
        · (intro w9 hSw; (try dsimp only at hSw); go_simp; first | done | with_reducible rfl)
        try simp only [Array.getInternal_eq_getElem, List.getElem_toArray, List.getElem_cons_zero, List.getElem_cons_succ, Act.put, List.setIfInBounds_toArray, List.set_cons_zero, List.set_cons_succ]
        refine wpAnyH_ready (rs := [3]) (by kernel_rfl) (by simp) ?_
        refine AllReadyH.cons rfl (fun K hK => ?_) AllReadyH.nil
        go_simp
        (((first | (go_at_call 37; first | ((with_reducible refine (HX.out _ ?_).mono ?_); (focus (refine (HTW.out _ ?_).1; (repeat (first | (with_reducible exact Below.refl _ _) | (with_reducible refine Below.drew ?_) | (with_reducible refine bl_drewN ?_ _) | ((with_reducible apply bthen); rotate_left; assumption))); done)); rintro e w3 ⟨rfl, B3⟩) | ((with_reducible refine (HY.out _ ?_).mono ?_); (focus (refine (HTW.out _ ?_).1; (repeat (first | (with_reducible exact Below.refl _ _) | (with_reducible refine Below.drew ?_) | (with_reducible refine bl_drewN ?_ _) | ((with_reducible apply bthen); rotate_left; assumption))); done)); rintro e w4 ⟨rfl, B4⟩)) | (go_at_call 55; first | ((with_reducible refine (HWX.out _ _).mono ?_); rintro e w5 ⟨rfl, B5⟩) | ((with_reducible refine (HWY.out _ _).mono ?_); rintro e w6 ⟨rfl, B6⟩)))))
        go_wp2_with fail
        refine hK.out _ _ ?_ (fun hHeld => ?_)
        · (try dsimp only); (refine ⟨?_, HZ.out _ ?_⟩ <;> (repeat (first | (with_reducible exact Below.refl _ _) | (with_reducible refine Below.drew ?_) | (with_reducible refine bl_drewN ?_ _) | ((with_reducible apply bthen); rotate_left; assumption))))
        clear hK K
        try simp only [Array.getInternal_eq_getElem, List.getElem_toArray, List.getElem_cons_zero, List.getElem_cons_succ, Act.put, List.setIfInBounds_toArray, List.set_cons_zero, List.set_cons_succ]
        refine wpAnyH_ready (rs := [12]) (by kernel_rfl) (by simp) ?_
        refine AllReadyH.cons rfl (fun K hK => ?_) AllReadyH.nil
        go_simp
        (((first | (go_at_call 37; first | ((with_reducible refine (HX.out _ ?_).mono ?_); (focus (refine (HTW.out _ ?_).1; (repeat (first | (with_reducible exact Below.refl _ _) | (with_reducible refine Below.drew ?_) | (with_reducible refine bl_drewN ?_ _) | ((with_reducible apply bthen); rotate_left; assumption))); done)); rintro e w3 ⟨rfl, B3⟩) | ((with_reducible refine (HY.out _ ?_).mono ?_); (focus (refine (HTW.out _ ?_).1; (repeat (first | (with_reducible exact Below.refl _ _) | (with_reducible refine Below.drew ?_) | (with_reducible refine bl_drewN ?_ _) | ((with_reducible apply bthen); rotate_left; assumption))); done)); rintro e w4 ⟨rfl, B4⟩)) | (go_at_call 55; first | ((with_reducible refine (HWX.out _ _).mono ?_); rintro e w5 ⟨rfl, B5⟩) | ((with_reducible refine (HWY.out _ _).mono ?_); rintro e w6 ⟨rfl, B6⟩)))))
        go_wp2_with fail
        refine hK.out _ _ ?_ (fun hHeld => ?_)
        · (try dsimp only); (refine ⟨?_, HZ.out _ ?_⟩ <;> (repeat (first | (with_reducible exact Below.refl _ _) | (with_reducible refine Below.drew ?_) | (with_reducible refine bl_drewN ?_ _) | ((with_reducible apply bthen); rotate_left; assumption))))
        clear hK K
        try simp only [Array.getInternal_eq_getElem, List.getElem_toArray, List.getElem_cons_zero, List.getElem_cons_succ, Act.put, List.setIfInBounds_toArray, List.set_cons_zero, List.set_cons_succ]
        refine wpAnyH_ready (rs := [16]) (by kernel_rfl) (by simp) ?_
        refine AllReadyH.cons rfl (fun K hK => ?_) AllReadyH.nil
        go_simp
        (((first | (go_at_call 37; first | ((with_reducible refine (HX.out _ ?_).mono ?_); (focus (refine (HTW.out _ ?_).1; (repeat (first | (with_reducible exact Below.refl _ _) | (with_reducible refine Below.drew ?_) | (with_reducible refine bl_drewN ?_ _) | ((with_reducible apply bthen); rotate_left; assumption))); done)); rintro e w3 ⟨rfl, B3⟩) | ((with_reducible refine (HY.out _ ?_).mono ?_); (focus (refine (HTW.out _ ?_).1; (repeat (first | (with_reducible exact Below.refl _ _) | (with_reducible refine Below.drew ?_) | (with_reducible refine bl_drewN ?_ _) | ((with_reducible apply bthen); rotate_left; assumption))); done)); rintro e w4 ⟨rfl, B4⟩)) | (go_at_call 55; first | ((with_reducible refine (HWX.out _ _).mono ?_); rintro e w5 ⟨rfl, B5⟩) | ((with_reducible refine (HWY.out _ _).mono ?_); rintro e w6 ⟨rfl, B6⟩)))))
        go_wp2_with fail
        refine hK.out _ _ ?_ (fun hHeld => ?_)
        · (try dsimp only); (refine ⟨?_, HZ.out _ ?_⟩ <;> (repeat (first | (with_reducible exact Below.refl _ _) | (with_reducible refine Below.drew ?_) | (with_reducible refine bl_drewN ?_ _) | ((with_reducible apply bthen); rotate_left; assumption))))
        clear hK K
        try simp only [Array.getInternal_eq_getElem, List.getElem_toArray, List.getElem_cons_zero, List.getElem_cons_succ, Act.put, List.setIfInBounds_toArray, List.set_cons_zero, List.set_cons_succ]
        refine wpAnyH_take (i := 25) (v := ?_) rfl (by kernel_rfl) (by kernel_rfl) (by kernel_rfl) (fun _ _ _ h => h) (Or.inl ⟨by rfl, ?_⟩) (by assumption) ?_
        rotate_left
        · (intro w9 hSw; (try dsimp only at hSw); go_simp; first | done | with_reducible rfl)
        try simp only [Array.getInternal_eq_getElem, List.getElem_toArray, List.getElem_cons_zero, List.getElem_cons_succ, Act.put, List.setIfInBounds_toArray, List.set_cons_zero, List.set_cons_succ]
        (refine wpAnyH_take (i := 26) rfl (by kernel_rfl) (by kernel_rfl) (by kernel_rfl) (fun _ _ _ h => h) (Or.inr ⟨by kernel_rfl, rfl⟩) (by assumption) ?_)
        try simp only [Array.getInternal_eq_getElem, List.getElem_toArray, List.getElem_cons_zero, List.getElem_cons_succ, Act.put, List.setIfInBounds_toArray, List.set_cons_zero, List.set_cons_succ]
        (refine wpAnyH_take (i := 27) rfl (by kernel_rfl) (by kernel_rfl) (by kernel_rfl) (fun _ _ _ h => h) (Or.inr ⟨by kernel_rfl, rfl⟩) (by assumption) ?_)
        try simp only [Array.getInternal_eq_getElem, List.getElem_toArray, List.getElem_cons_zero, List.getElem_cons_succ, Act.put, List.setIfInBounds_toArray, List.set_cons_zero, List.set_cons_succ]
        (refine wpAnyH_take (i := 28) rfl (by kernel_rfl) (by kernel_rfl) (by kernel_rfl) (fun _ _ _ h => h) (Or.inr ⟨by kernel_rfl, rfl⟩) (by assumption) ?_)
        try simp only [Array.getInternal_eq_getElem, List.getElem_toArray, List.getElem_cons_zero, List.getElem_cons_succ, Act.put, List.setIfInBounds_toArray, List.set_cons_zero, List.set_cons_succ]
        (refine wpAnyH_take (i := 29) rfl (by kernel_rfl) (by kernel_rfl) (by kernel_rfl) (fun _ _ _ h => h) (Or.inr ⟨by kernel_rfl, rfl⟩) (by assumption) ?_)
        try simp only [Array.getInternal_eq_getElem, List.getElem_toArray, List.getElem_cons_zero, List.getElem_cons_succ, Act.put, List.setIfInBounds_toArray, List.set_cons_zero, List.set_cons_succ]
        (refine wpAnyH_take (i := 30) rfl (by kernel_rfl) (by kernel_rfl) (by kernel_rfl) (fun _ _ _ h => h) (Or.inr ⟨by kernel_rfl, rfl⟩) (by assumption) ?_)
        try simp only [Array.getInternal_eq_getElem, List.getElem_toArray, List.getElem_cons_zero, List.getElem_cons_succ, Act.put, List.setIfInBounds_toArray, List.set_cons_zero, List.set_cons_succ]
        (refine wpAnyH_take (i := 31) rfl (by kernel_rfl) (by kernel_rfl) (by kernel_rfl) (fun _ _ _ h => h) (Or.inr ⟨by kernel_rfl, rfl⟩) (by assumption) ?_)
        try simp only [Array.getInternal_eq_getElem, List.getElem_toArray, List.getElem_cons_zero, List.getElem_cons_succ, Act.put, List.setIfInBounds_toArray, List.set_cons_zero, List.set_cons_succ]
        (refine wpAnyH_take (i := 32) rfl (by kernel_rfl) (by kernel_rfl) (by kernel_rfl) (fun _ _ _ h => h) (Or.inr ⟨by kernel_rfl, rfl⟩) (by assumption) ?_)
        try simp only [Array.getInternal_eq_getElem, List.getElem_toArray, List.getElem_cons_zero, List.getElem_cons_succ, Act.put, List.setIfInBounds_toArray, List.set_cons_zero, List.set_cons_succ]
        (refine wpAnyH_take (i := 33) rfl (by kernel_rfl) (by kernel_rfl) (by kernel_rfl) (fun _ _ _ h => h) (Or.inr ⟨by kernel_rfl, rfl⟩) (by assumption) ?_)
        try simp only [Array.getInternal_eq_getElem, List.getElem_toArray, List.getElem_cons_zero, List.getElem_cons_succ, Act.put, List.setIfInBounds_toArray, List.set_cons_zero, List.set_cons_succ]
        refine wpAnyH_take (i := 34) (v := ?_) rfl (by kernel_rfl) (by kernel_rfl) (by kernel_rfl) (fun _ _ _ h => h) (Or.inl ⟨by rfl, ?_⟩) (by assumption) ?_
        rotate_left
        · (intro w9 hSw; (try dsimp only at hSw); go_simp; first | done | with_reducible rfl)
        try simp only [Array.getInternal_eq_getElem, List.getElem_toArray, List.getElem_cons_zero, List.getElem_cons_succ, Act.put, List.setIfInBounds_toArray, List.set_cons_zero, List.set_cons_succ]
        refine wpAnyH_ready (rs := [35]) (by kernel_rfl) (by simp) ?_
        refine AllReadyH.cons rfl (fun K hK => ?_) AllReadyH.nil
        go_simp
        (((first | (go_at_call 37; first | ((with_reducible refine (HX.out _ ?_).mono ?_); (focus (refine (HTW.out _ ?_).1; (repeat (first | (with_reducible exact Below.refl _ _) | (with_reducible refine Below.drew ?_) | (with_reducible refine bl_drewN ?_ _) | ((with_reducible apply bthen); rotate_left; assumption))); done)); rintro e w3 ⟨rfl, B3⟩) | ((with_reducible refine (HY.out _ ?_).mono ?_); (focus (refine (HTW.out _ ?_).1; (repeat (first | (with_reducible exact Below.refl _ _) | (with_reducible refine Below.drew ?_) | (with_reducible refine bl_drewN ?_ _) | ((with_reducible apply bthen); rotate_left; assumption))); done)); rintro e w4 ⟨rfl, B4⟩)) | (go_at_call 55; first | ((with_reducible refine (HWX.out _ _).mono ?_); rintro e w5 ⟨rfl, B5⟩) | ((with_reducible refine (HWY.out _ _).mono ?_); rintro e w6 ⟨rfl, B6⟩)))))
        go_wp2_with fail
        refine hK.out _ _ ?_ (fun hHeld => ?_)
        · (try dsimp only); (refine ⟨?_, HZ.out _ ?_⟩ <;> (repeat (first | (with_reducible exact Below.refl _ _) | (with_reducible refine Below.drew ?_) | (with_reducible refine bl_drewN ?_ _) | ((with_reducible apply bthen); rotate_left; assumption))))
        clear hK K
        try simp only [Array.getInternal_eq_getElem, List.getElem_toArray, List.getElem_cons_zero, List.getElem_cons_succ, Act.put, List.setIfInBounds_toArray, List.set_cons_zero, List.set_cons_succ]
        refine wpAnyH_take (i := 36) (v := ?_) rfl (by kernel_rfl) (by kernel_rfl) (by kernel_rfl) (fun _ _ _ h => h) (Or.inl ⟨by rfl, ?_⟩) (by assumption) ?_
        rotate_left
        · (intro w9 hSw; (try dsimp only at hSw); go_simp; first | done | with_reducible rfl)
        try simp only [Array.getInternal_eq_getElem, List.getElem_toArray, List.getElem_cons_zero, List.getElem_cons_succ, Act.put, List.setIfInBounds_toArray, List.set_cons_zero, List.set_cons_succ]
        refine wpAnyH_take (i := 37) (v := ?_) rfl (by kernel_rfl) (by kernel_rfl) (by kernel_rfl) (fun _ _ _ h => h) (Or.inl ⟨by rfl, ?_⟩) (by assumption) ?_
        rotate_left
        · (intro w9 hSw; (try dsimp only at hSw); go_simp; first | done | with_reducible rfl)
        try simp only [Array.getInternal_eq_getElem, List.getElem_toArray, List.getElem_cons_zero, List.getElem_cons_succ, Act.put, List.setIfInBounds_toArray, List.set_cons_zero, List.set_cons_succ]
        refine wpAnyH_done (by kernel_rfl) ?_ _
        (try dsimp only)
        (try simp only [Act.put, List.setIfInBounds_toArray, List.set_cons_zero, List.set_cons_succ, List.set])
        all_goals
          go_wp2_with fail
          go_ret
          refine ⟨ret_str (by rw [HV.out]; simp), (HTW.out _ ?_).2⟩
          (repeat (first | (with_reducible exact Below.refl _ _) | (with_reducible refine Below.drew ?_) | (with_reducible refine bl_drewN ?_ _) | ((with_reducible apply bthen); rotate_left; assumption)))
    · have HV : Hid (Tr.pn (Tr.tr ns i) = Tr.pn (Tr.tr ns n.a.toNat) ++ 124 :: Tr.wr (Tr.tr ns n.b.toNat).isAlt (Tr.pn (Tr.tr ns n.b.toNat))) := Lib.hid (by rw [halt hk]; rfl)
      have e : Tr.below n = [n.a, n.b] := by unfold Tr.below; simp [hk]
      have ha := hch n.a (by simp [e])
      have hb := hch n.b (by simp [e])
      obtain ⟨x, hx⟩ := Int.eq_ofNat_of_zero_le ha.1
      obtain ⟨y, hy⟩ := Int.eq_ofNat_of_zero_le hb.1
      have xl : x < ns.length := by omega
      have yl : y < ns.length := by omega
      have IX := ih x (by omega) (by omega)
      have IY := ih y (by omega) (by omega)
      unfold RNodeSaid at IX IY
      have KX := Tr.kind_of hG xl
      have KY := Tr.kind_of hG yl
      have l1 := Tr.pn_short hG xl
      have l2 := Tr.pn_short hG yl
      have HZ : Hid (∀ z, Below ((w.alloc (.cells #[.slice (some a) ns.length c, .slice A' ps.length c'] 33)).alloc (.cells #[.int .u8 n.k, .int .u64 n.s.a, .int .u64 n.s.b, .int .u64 n.s.c, .int .u64 n.s.d, .int .i64 n.a, .int .i64 n.b, .int .i64 n.mn, .int .i64 n.mx] 27)).heap.size ((w.alloc (.cells #[.slice (some a) ns.length c, .slice A' ps.length c'] 33)).alloc (.cells #[.int .u8 n.k, .int .u64 n.s.a, .int .u64 n.s.b, .int .u64 n.s.c, .int .u64 n.s.d, .int .i64 n.a, .int .i64 n.b, .int .i64 n.mn, .int .i64 n.mx] 27)) z → z.cell? ⟨w.heap.size, 0, none⟩ = some (.slice (some a) ns.length c) ∧ z.cell? ⟨w.heap.size, 1, none⟩ = some (.slice A' ps.length c') ∧ z.cell? ⟨w.heap.size + 1, 5, none⟩ = some (.int .i64 x) ∧ z.cell? ⟨w.heap.size + 1, 6, none⟩ = some (.int .i64 y) ∧ z.cell? (a.add (x * 9)) = some (.int .u8 ns[x].k) ∧ z.cell? (a.add (y * 9)) = some (.int .u8 ns[y].k)) := by
        refine Lib.hid fun z hz => ?_
        have k1 := blk_below (blk_alloc (blk_new w (.cells #[.slice (some a) ns.length c, .slice A' ps.length c'] 33)) (.cells #[.int .u8 n.k, .int .u64 n.s.a, .int .u64 n.s.b, .int .u64 n.s.c, .int .u64 n.s.d, .int .i64 n.a, .int .i64 n.b, .int .i64 n.mn, .int .i64 n.mx] 27)) hz
        have k2 := blk_below (blk_new_at (w.alloc (.cells #[.slice (some a) ns.length c, .slice A' ps.length c'] 33)) (.cells #[.int .u8 n.k, .int .u64 n.s.a, .int .u64 n.s.b, .int .u64 n.s.c, .int .u64 n.s.d, .int .i64 n.a, .int .i64 n.b, .int .i64 n.mn, .int .i64 n.mx] 27) (w.heap.size + 1) (by simp)) hz
        have hT := (HTW.out z hz).1
        exact ⟨(blk_cell k1 0).trans rfl, (blk_cell k1 1).trans rfl, (blk_cell k2 5).trans (by rw [← hx]; rfl), (blk_cell k2 6).trans (by rw [← hy]; rfl), kinds_of hT x xl, kinds_of hT y yl⟩
      have hkx : (((ns[x].k : Nat) : Int) == 4) = (Tr.tr ns x).isAlt := by rw [KX.1, Bool.eq_iff_iff, beq_iff_eq, decide_eq_true_iff]; omega
      have hky : (((ns[y].k : Nat) : Int) == 4) = (Tr.tr ns y).isAlt := by rw [KY.1, Bool.eq_iff_iff, beq_iff_eq, decide_eq_true_iff]; omega
      have hky3 : (((ns[y].k : Nat) : Int) == 3) = (Tr.tr ns y).isSeq := by rw [KY.2.1, Bool.eq_iff_iff, beq_iff_eq, decide_eq_true_iff]; omega
      have t1 : ((n.k : Int) == 1) = false := by rw [hk]; rfl
      have t2 : ((n.k : Int) == 2) = false := by rw [hk]; rfl
      have t3 : ((n.k : Int) == 3) = false := by rw [hk]; rfl
      have t4 : ((n.k : Int) == 4) = true := by rw [hk]; rfl
      rw [hx, hy] at HV
      simp only [Int.toNat_natCast] at HV
      clear hkx hky3
      generalize Tr.pn (Tr.tr ns x) = px at IX l1 HV
      generalize (Tr.tr ns y).isAlt = by4 at hky HV
      generalize Tr.pn (Tr.tr ns y) = py at IY l2 HV
      generalize ns[x].k = kx at HZ
      generalize ns[y].k = ky at hky HZ
      have HX := Lib.hid IX
      have HY := Lib.hid IY
      have HWX := Lib.hid (fun (v : Bool) w1 => wrap_any px v (by omega) w1)
      have HWY := Lib.hid (fun (v : Bool) w1 => wrap_any py v (by omega) w1)
      have hwy := Tr.wr_len by4 py
      have i1 : (x : Int) < ns.length := by omega
      have i2 : (y : Int) < ns.length := by omega
      clear hmay hch hset hseq halt htms hemp hk ih hab hwk hP hNA e ha hb hx hy IX IY KX KY
      have hz0 : ¬ 9223372036854775807 < px.length + 1 := by omega
      have hz : ¬ 9223372036854775807 < px.length + 1 + (Tr.wr by4 py).length := by omega
      have hz2 : ¬ 9223372036854775807 < px.length + (1 + (Tr.wr by4 py).length) := by omega
      have hz3 : ¬ 9223372036854775807 < px.length + ((Tr.wr by4 py).length + 1) := by omega
      go_enter Tryd.func37, Tryd.ntmps37
      go_wp2_with fail
      clear c0 c1 c2 c3 c4 c5 c6 c7 c8
      generalize ((w.alloc (.cells #[.slice (some a) ns.length c, .slice A' ps.length c'] 33)).alloc (.cells #[.int .u8 n.k, .int .u64 n.s.a, .int .u64 n.s.b, .int .u64 n.s.c, .int .u64 n.s.d, .int .i64 n.a, .int .i64 n.b, .int .i64 n.mn, .int .i64 n.mx] 27)) = W0 at HTW HZ HB2 ⊢
      have K1 := HZ.out _ (Below.refl _ _)
      go_region_held3 (fun z => Below W0.heap.size W0 z ∧ z.cell? ⟨w.heap.size, 0, none⟩ = some (.slice (some a) ns.length c) ∧ z.cell? ⟨w.heap.size, 1, none⟩ = some (.slice A' ps.length c') ∧ z.cell? ⟨w.heap.size + 1, 5, none⟩ = some (.int .i64 x) ∧ z.cell? ⟨w.heap.size + 1, 6, none⟩ = some (.int .i64 y) ∧ z.cell? (a.add (x * 9)) = some (.int .u8 kx) ∧ z.cell? (a.add (y * 9)) = some (.int .u8 ky)) ((refine ⟨?_, HZ.out _ ?_⟩ <;> (repeat (first | (with_reducible exact Below.refl _ _) | (with_reducible refine Below.drew ?_) | (with_reducible refine bl_drewN ?_ _) | ((with_reducible apply bthen); rotate_left; assumption))))) ((first | (go_at_call 37; first | ((with_reducible refine (HX.out _ ?_).mono ?_); (focus (refine (HTW.out _ ?_).1; (repeat (first | (with_reducible exact Below.refl _ _) | (with_reducible refine Below.drew ?_) | (with_reducible refine bl_drewN ?_ _) | ((with_reducible apply bthen); rotate_left; assumption))); done)); rintro e w3 ⟨rfl, B3⟩) | ((with_reducible refine (HY.out _ ?_).mono ?_); (focus (refine (HTW.out _ ?_).1; (repeat (first | (with_reducible exact Below.refl _ _) | (with_reducible refine Below.drew ?_) | (with_reducible refine bl_drewN ?_ _) | ((with_reducible apply bthen); rotate_left; assumption))); done)); rintro e w4 ⟨rfl, B4⟩)) | (go_at_call 55; first | ((with_reducible refine (HWX.out _ _).mono ?_); rintro e w5 ⟨rfl, B5⟩) | ((with_reducible refine (HWY.out _ _).mono ?_); rintro e w6 ⟨rfl, B6⟩))))
      all_goals
        go_wp2_with fail
        go_ret
        refine ⟨ret_str (by rw [HV.out]), (HTW.out _ ?_).2⟩
        (repeat (first | (with_reducible exact Below.refl _ _) | (with_reducible refine Below.drew ?_) | (with_reducible refine bl_drewN ?_ _) | ((with_reducible apply bthen); rotate_left; assumption)))
    · have HV : Hid (Tr.pn (Tr.tr ns i) = Tr.wr ((Tr.tr ns n.a.toNat).isSeq || (Tr.tr ns n.a.toNat).isAlt || (Tr.tr ns n.a.toNat).isTms) (Tr.pn (Tr.tr ns n.a.toNat)) ++ Tr.ptm n.mn n.mx) := Lib.hid (by rw [htms hk]; rfl)
      have e : Tr.below n = [n.a] := by unfold Tr.below; simp [hk]
      have ha := hch n.a (by simp [e])
      obtain ⟨x, hx⟩ := Int.eq_ofNat_of_zero_le ha.1
      have xl : x < ns.length := by omega
      have IX := ih x (by omega) (by omega)
      unfold RNodeSaid at IX
      have KX := Tr.kind_of hG xl
      have l1 := Tr.pn_short hG xl
      have hmx := Tr.may_times hmay
      have HZ : Hid (∀ z, Below ((w.alloc (.cells #[.slice (some a) ns.length c, .slice A' ps.length c'] 33)).alloc (.cells #[.int .u8 n.k, .int .u64 n.s.a, .int .u64 n.s.b, .int .u64 n.s.c, .int .u64 n.s.d, .int .i64 n.a, .int .i64 n.b, .int .i64 n.mn, .int .i64 n.mx] 27)).heap.size ((w.alloc (.cells #[.slice (some a) ns.length c, .slice A' ps.length c'] 33)).alloc (.cells #[.int .u8 n.k, .int .u64 n.s.a, .int .u64 n.s.b, .int .u64 n.s.c, .int .u64 n.s.d, .int .i64 n.a, .int .i64 n.b, .int .i64 n.mn, .int .i64 n.mx] 27)) z → z.cell? ⟨w.heap.size, 0, none⟩ = some (.slice (some a) ns.length c) ∧ z.cell? ⟨w.heap.size, 1, none⟩ = some (.slice A' ps.length c') ∧ z.cell? ⟨w.heap.size + 1, 5, none⟩ = some (.int .i64 x) ∧ z.cell? ⟨w.heap.size + 1, 7, none⟩ = some (.int .i64 n.mn) ∧ z.cell? ⟨w.heap.size + 1, 8, none⟩ = some (.int .i64 n.mx) ∧ z.cell? (a.add (x * 9)) = some (.int .u8 ns[x].k)) := by
        refine Lib.hid fun z hz => ?_
        have k1 := blk_below (blk_alloc (blk_new w (.cells #[.slice (some a) ns.length c, .slice A' ps.length c'] 33)) (.cells #[.int .u8 n.k, .int .u64 n.s.a, .int .u64 n.s.b, .int .u64 n.s.c, .int .u64 n.s.d, .int .i64 n.a, .int .i64 n.b, .int .i64 n.mn, .int .i64 n.mx] 27)) hz
        have k2 := blk_below (blk_new_at (w.alloc (.cells #[.slice (some a) ns.length c, .slice A' ps.length c'] 33)) (.cells #[.int .u8 n.k, .int .u64 n.s.a, .int .u64 n.s.b, .int .u64 n.s.c, .int .u64 n.s.d, .int .i64 n.a, .int .i64 n.b, .int .i64 n.mn, .int .i64 n.mx] 27) (w.heap.size + 1) (by simp)) hz
        have hT := (HTW.out z hz).1
        exact ⟨(blk_cell k1 0).trans rfl, (blk_cell k1 1).trans rfl, (blk_cell k2 5).trans (by rw [← hx]; rfl), (blk_cell k2 7).trans rfl, (blk_cell k2 8).trans rfl, kinds_of hT x xl⟩
      have hle5 : ns[x].k ≤ 5 := by have := Tr.may_kind (hG.my _ (List.getElem_mem xl)); omega
      have hkx : decide ((2 : Int) < ((ns[x].k : Nat) : Int)) = ((Tr.tr ns x).isSeq || (Tr.tr ns x).isAlt || (Tr.tr ns x).isTms) := by
        rw [KX.1, KX.2.1, KX.2.2, Bool.eq_iff_iff, decide_eq_true_iff, Bool.or_eq_true, Bool.or_eq_true, decide_eq_true_iff, decide_eq_true_iff, decide_eq_true_iff]
        omega
      have t1 : ((n.k : Int) == 1) = false := by rw [hk]; rfl
      have t2 : ((n.k : Int) == 2) = false := by rw [hk]; rfl
      have t3 : ((n.k : Int) == 3) = false := by rw [hk]; rfl
      have t4 : ((n.k : Int) == 4) = false := by rw [hk]; rfl
      rw [hx] at HV
      simp only [Int.toNat_natCast] at HV
      generalize ((Tr.tr ns x).isSeq || (Tr.tr ns x).isAlt || (Tr.tr ns x).isTms) = bx at hkx HV
      generalize Tr.pn (Tr.tr ns x) = px at IX l1 HV
      generalize ns[x].k = kx at hkx HZ
      have HX := Lib.hid IX
      have HWX := Lib.hid (fun (v : Bool) w1 => wrap_any px v (by omega) w1)
      have hwx1 := Tr.wr_len bx px
      have i1 : (x : Int) < ns.length := by omega
      have hl : (Tr.wr bx px).length ≤ 1392002 := by omega
      have hcv := cv_1
      have hcv3 := cv_3
      clear hmay hch hset hseq halt htms hemp hk ih hab hwk hP hNA e ha hx IX KX hwx1 l1
      have z1 : ¬ 9223372036854775807 < (Tr.wr bx px).length + 1 := by omega
      have z2 : ¬ 9223372036854775807 < (Tr.wr bx px).length + 1 + 1 := by omega
      have z3 : ¬ 9223372036854775807 < (Tr.wr bx px).length + (1 + 1) := by omega
      have z4 : ¬ 9223372036854775807 < (Tr.wr bx px).length + 1 + 1 + 1 := by omega
      have z5 : ¬ 9223372036854775807 < (Tr.wr bx px).length + 1 + 1 + 1 + 1 := by omega
      have z6 : ¬ 9223372036854775807 < (Tr.wr bx px).length + 1 + 1 + 1 + 1 + 1 := by omega
      go_enter Tryd.func37, Tryd.ntmps37
      go_wp2_with fail
      clear c0 c1 c2 c3 c4 c5 c6 c7 c8
      generalize ((w.alloc (.cells #[.slice (some a) ns.length c, .slice A' ps.length c'] 33)).alloc (.cells #[.int .u8 n.k, .int .u64 n.s.a, .int .u64 n.s.b, .int .u64 n.s.c, .int .u64 n.s.d, .int .i64 n.a, .int .i64 n.b, .int .i64 n.mn, .int .i64 n.mx] 27)) = W0 at HTW HZ HB2 ⊢
      have K1 := HZ.out _ (Below.refl _ _)
      go_region_held3 (fun z => Below W0.heap.size W0 z ∧ z.cell? ⟨w.heap.size, 0, none⟩ = some (.slice (some a) ns.length c) ∧ z.cell? ⟨w.heap.size, 1, none⟩ = some (.slice A' ps.length c') ∧ z.cell? ⟨w.heap.size + 1, 5, none⟩ = some (.int .i64 x) ∧ z.cell? ⟨w.heap.size + 1, 7, none⟩ = some (.int .i64 n.mn) ∧ z.cell? ⟨w.heap.size + 1, 8, none⟩ = some (.int .i64 n.mx) ∧ z.cell? (a.add (x * 9)) = some (.int .u8 kx)) ((refine ⟨?_, HZ.out _ ?_⟩ <;> (repeat (first | (with_reducible exact Below.refl _ _) | (with_reducible refine Below.drew ?_) | (with_reducible refine bl_drewN ?_ _) | ((with_reducible apply bthen); rotate_left; assumption))))) ((first | (go_at_call 37; (with_reducible refine (HX.out _ ?_).mono ?_); (focus (refine (HTW.out _ ?_).1; (repeat (first | (with_reducible exact Below.refl _ _) | (with_reducible refine Below.drew ?_) | (with_reducible refine bl_drewN ?_ _) | ((with_reducible apply bthen); rotate_left; assumption))); done)); rintro e w3 ⟨rfl, B3⟩) | (go_at_call 55; (with_reducible refine (HWX.out _ _).mono ?_); rintro e w5 ⟨rfl, B5⟩)))
      all_goals
        generalize Tr.wr bx px = lx at *
        rcases hmx with ⟨hx, hm⟩ | ⟨h0, h1, h2⟩
        · have d1 : decide (n.mx < 0) = true := decide_eq_true (by omega)
          rcases hm with hm | hm
          · have HP : Hid (Tr.ptm n.mn n.mx = [42]) := Lib.hid (by unfold Tr.ptm; rw [if_pos hx, if_pos hm])
            have d2 := beq_t hm
            clear hx hm
            go_wp2_with fail
            go_ret
            refine ⟨ret_str (by rw [HV.out, HP.out]), (HTW.out _ ?_).2⟩
            (repeat (first | (with_reducible exact Below.refl _ _) | (with_reducible refine Below.drew ?_) | (with_reducible refine bl_drewN ?_ _) | ((with_reducible apply bthen); rotate_left; assumption)))
          · have HP : Hid (Tr.ptm n.mn n.mx = [43]) := Lib.hid (by unfold Tr.ptm; rw [if_pos hx, if_neg (by omega)])
            have d2 : (n.mn == 0) = false := beq_f (by omega)
            clear hx hm
            go_wp2_with fail
            go_ret
            refine ⟨ret_str (by rw [HV.out, HP.out]), (HTW.out _ ?_).2⟩
            (repeat (first | (with_reducible exact Below.refl _ _) | (with_reducible refine Below.drew ?_) | (with_reducible refine bl_drewN ?_ _) | ((with_reducible apply bthen); rotate_left; assumption)))
        · have d1 : decide (n.mx < 0) = false := decide_eq_false (by omega)
          have hq := (‹Below W0.heap.size W0 w5 ∧ _›).1
          have k1 : ∀ o, Below W0.heap.size W0 (w5.alloc o) := fun o => Below.alloc hq hq.size o
          have k2 : ∀ o o', Below W0.heap.size W0 ((w5.alloc o).alloc o') := fun o o' => Below.alloc (k1 o) (k1 o).size o'
          have m7 : ∀ o, (w5.alloc o).cell? ⟨w.heap.size + 1, 7, none⟩ = some (.int .i64 n.mn) := fun o => (HZ.out _ (k1 o)).2.2.2.1
          have m8 : ∀ o, (w5.alloc o).cell? ⟨w.heap.size + 1, 8, none⟩ = some (.int .i64 n.mx) := fun o => (HZ.out _ (k1 o)).2.2.2.2.1
          have r7 : ∀ o o', ((w5.alloc o).alloc o').cell? ⟨w.heap.size + 1, 7, none⟩ = some (.int .i64 n.mn) := fun o o' => (HZ.out _ (k2 o o')).2.2.2.1
          have r8 : ∀ o o', ((w5.alloc o).alloc o').cell? ⟨w.heap.size + 1, 8, none⟩ = some (.int .i64 n.mx) := fun o o' => (HZ.out _ (k2 o o')).2.2.2.2.1
          have HK := Lib.hid (fun o o' => (HTW.out _ (k2 o o')).2)
          clear hq k1 k2
          have e1 : IntKind.i64.wrap (48 + n.mn) = 48 + n.mn := IntWalk.i64_in _ (by omega)
          have e2 : IntKind.i64.wrap (48 + n.mx) = 48 + n.mx := IntWalk.i64_in _ (by omega)
          have e3 : (48 + n.mn) % 256 = 48 + n.mn := by omega
          have e4 : (48 + n.mx) % 256 = 48 + n.mx := by omega
          have g1 := dgt_eq n.mn (by omega)
          have g2 := dgt_eq n.mx (by omega)
          by_cases h4 : n.mn = n.mx
          · have HP : Hid (Tr.ptm n.mn n.mx = [123, Tr.dgt n.mn, 125]) := Lib.hid (by unfold Tr.ptm; rw [if_neg (by omega), if_neg (by omega), if_pos h4])
            have d4 := beq_t h4
            clear h4 h0 h1 h2
            go_wp2_with fail
            go_ret
            refine ⟨ret_str (by rw [HV.out, HP.out]), HK.out _ _⟩
          · have d4 := beq_f h4
            by_cases h3 : n.mx = 1
            · have HP : Hid (Tr.ptm n.mn n.mx = [63]) := Lib.hid (by unfold Tr.ptm; rw [if_neg (by omega), if_pos (by omega)])
              have d3 := beq_t h3
              clear h3 h4 h0 h1 h2
              go_wp2_with fail
              go_ret
              refine ⟨ret_str (by rw [HV.out, HP.out]), HK.out _ _⟩
            · have HP : Hid (Tr.ptm n.mn n.mx = [123, Tr.dgt n.mn, 44, Tr.dgt n.mx, 125]) := Lib.hid (by unfold Tr.ptm; rw [if_neg (by omega), if_neg (by omega), if_neg h4])
              have d3 := beq_f h3
              clear h3 h4 h0 h1 h2
              go_wp2_with fail
              go_ret
              refine ⟨ret_str (by rw [HV.out, HP.out]), HK.out _ _⟩
end Go.Proofs.YtebkaajnnjfhjaaDoor
