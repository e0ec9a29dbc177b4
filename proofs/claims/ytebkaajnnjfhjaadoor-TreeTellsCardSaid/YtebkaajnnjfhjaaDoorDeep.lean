/-
  The document's deep and places: walked.
-/
import Derived.Test.YtebkaajnnjfhjaaDoorRright
import Derived.Test.YtebkaajnnjfhjaaDoorSome6
namespace Go.Proofs.YtebkaajnnjfhjaaDoor
set_option linter.unusedVariables false
set_option linter.unusedSimpArgs false
open Go.RowKit Go.Proofs.YtebkaajnnjfhjaaDoorW.PrintWords
open Tr (Nd Pt)

def DeepSaid (A A' : Option Addr) (ns : List Nd) (ps : List Pt) (c c' i : Nat) : Prop := ∀ w, TreeAt w A A' ns ps → Calls Tryd.prog 39 #[.agg #[.slice A ns.length c, .slice A' ps.length c'], .int .i64 i] w fun e w' => e = .returned (.int .i64 (dF ns i)) ∧ Below w.heap.size w w'
def PlacesSaid (A A' : Option Addr) (ns : List Nd) (ps : List Pt) (c c' i : Nat) : Prop := ∀ w, TreeAt w A A' ns ps → Calls Tryd.prog 38 #[.agg #[.slice A ns.length c, .slice A' ps.length c'], .int .i64 i] w fun e w' => e = .returned (.int .i64 (pF ns i)) ∧ Below w.heap.size w w'
set_option maxRecDepth 100000 in
set_option maxHeartbeats 6400000 in
theorem deep_f (A A' : Option Addr) (ns : List Nd) (ps : List Pt) (c c' : Nat) (hG : Tr.Good ns ps) (f : Nat) : ∀ i, i < f → i < ns.length → DeepSaid A A' ns ps c c' i := by
  induction f with
  | zero => intro i h; omega
  | succ f ih =>
    intro i hf hi w hP
    have hd : Tr.Dn ns := hG.dn
    have hn : ns[i]? = some ns[i] := List.getElem?_eq_getElem hi
    have hmem := List.getElem_mem hi
    obtain ⟨a, ha, hab, hNA⟩ := hP.nodes i hi
    have hle := hG.n2
    have hmay := hG.my _ hmem
    have hch := hd i _ hn
    subst ha
    have hB0 : Below w.heap.size w (w.alloc (.cells #[.slice (some a) ns.length c, .slice A' ps.length c'] 33)) := by (repeat (first | exact Below.refl _ _ | assumption | refine Below.drew ?_ | refine Below.alloc ?_ (by first | exact Nat.le_refl _ | (simp; done) | (simp; omega) | omega) _ | refine Below.setCell ?_ (by first | exact Nat.le_refl _ | (simp; done) | (simp; omega) | omega) _))
    obtain ⟨c0, c1, c2, c3, c4, c5, c6, c7, c8⟩ := hNA.below hB0 (by rw [add_block]; exact hab)
    have hset := fun h => Tr.tr_set hn h
    have hseq := fun h => Tr.tr_seq hd hn h
    have halt := fun h => Tr.tr_alt hd hn h
    have htms := fun h => Tr.tr_tms hd hn h
    have hemp := fun h2 h3 h4 h5 => Tr.tr_emp hn h2 h3 h4 h5
    generalize ns[i] = n at *
    have hB2 : Below w.heap.size w ((w.alloc (.cells #[.slice (some a) ns.length c, .slice A' ps.length c'] 33)).alloc (.cells #[.int .u8 n.k, .int .u64 n.s.a, .int .u64 n.s.b, .int .u64 n.s.c, .int .u64 n.s.d, .int .i64 n.a, .int .i64 n.b, .int .i64 n.mn, .int .i64 n.mx] 27)) := by (repeat (first | exact Below.refl _ _ | assumption | refine Below.drew ?_ | refine Below.alloc ?_ (by first | exact Nat.le_refl _ | (simp; done) | (simp; omega) | omega) _ | refine Below.setCell ?_ (by first | exact Nat.le_refl _ | (simp; done) | (simp; omega) | omega) _))
    have HTW : Hid (∀ z, Below ((w.alloc (.cells #[.slice (some a) ns.length c, .slice A' ps.length c'] 33)).alloc (.cells #[.int .u8 n.k, .int .u64 n.s.a, .int .u64 n.s.b, .int .u64 n.s.c, .int .u64 n.s.d, .int .i64 n.a, .int .i64 n.b, .int .i64 n.mn, .int .i64 n.mx] 27)).heap.size ((w.alloc (.cells #[.slice (some a) ns.length c, .slice A' ps.length c'] 33)).alloc (.cells #[.int .u8 n.k, .int .u64 n.s.a, .int .u64 n.s.b, .int .u64 n.s.c, .int .u64 n.s.d, .int .i64 n.a, .int .i64 n.b, .int .i64 n.mn, .int .i64 n.mx] 27)) z → TreeAt z (some a) A' ns ps ∧ Below w.heap.size w z) := Lib.hid fun z hz => ⟨hP.below (bthen hB2 hz), bthen hB2 hz⟩
    have HZ : Hid (∀ z, Below ((w.alloc (.cells #[.slice (some a) ns.length c, .slice A' ps.length c'] 33)).alloc (.cells #[.int .u8 n.k, .int .u64 n.s.a, .int .u64 n.s.b, .int .u64 n.s.c, .int .u64 n.s.d, .int .i64 n.a, .int .i64 n.b, .int .i64 n.mn, .int .i64 n.mx] 27)).heap.size ((w.alloc (.cells #[.slice (some a) ns.length c, .slice A' ps.length c'] 33)).alloc (.cells #[.int .u8 n.k, .int .u64 n.s.a, .int .u64 n.s.b, .int .u64 n.s.c, .int .u64 n.s.d, .int .i64 n.a, .int .i64 n.b, .int .i64 n.mn, .int .i64 n.mx] 27)) z → z.cell? ⟨w.heap.size, 0, none⟩ = some (.slice (some a) ns.length c) ∧ z.cell? ⟨w.heap.size, 1, none⟩ = some (.slice A' ps.length c') ∧ z.cell? ⟨w.heap.size + 1, 0, none⟩ = some (.int .u8 n.k) ∧ z.cell? ⟨w.heap.size + 1, 5, none⟩ = some (.int .i64 n.a) ∧ z.cell? ⟨w.heap.size + 1, 6, none⟩ = some (.int .i64 n.b) ∧ z.cell? ⟨w.heap.size + 1, 7, none⟩ = some (.int .i64 n.mn) ∧ z.cell? ⟨w.heap.size + 1, 8, none⟩ = some (.int .i64 n.mx)) := by
      refine Lib.hid fun z hz => ?_
      have k1 := blk_below (blk_alloc (blk_new w (.cells #[.slice (some a) ns.length c, .slice A' ps.length c'] 33)) (.cells #[.int .u8 n.k, .int .u64 n.s.a, .int .u64 n.s.b, .int .u64 n.s.c, .int .u64 n.s.d, .int .i64 n.a, .int .i64 n.b, .int .i64 n.mn, .int .i64 n.mx] 27)) hz
      have k2 := blk_below (blk_new_at (w.alloc (.cells #[.slice (some a) ns.length c, .slice A' ps.length c'] 33)) (.cells #[.int .u8 n.k, .int .u64 n.s.a, .int .u64 n.s.b, .int .u64 n.s.c, .int .u64 n.s.d, .int .i64 n.a, .int .i64 n.b, .int .i64 n.mn, .int .i64 n.mx] 27) (w.heap.size + 1) (by simp)) hz
      exact ⟨(blk_cell k1 0).trans rfl, (blk_cell k1 1).trans rfl, (blk_cell k2 0).trans rfl, (blk_cell k2 5).trans rfl, (blk_cell k2 6).trans rfl, (blk_cell k2 7).trans rfl, (blk_cell k2 8).trans rfl⟩
    have HB2 := Lib.hid hB2
    clear hNA hB0 hB2 hP hn hmem
    rcases Tr.may_kind hmay with hk | hk | hk | hk | hk
    · have HV : Hid (dF ns i = 1) := Lib.hid (by unfold dF; rw [hemp (by omega) (by omega) (by omega) (by omega)]; rfl)
      rw [HV.out]
      have t2 : ((n.k : Int) == 2) = false := by rw [hk]; rfl
      have t3 : ((n.k : Int) == 3) = false := by rw [hk]; rfl
      have t4 : ((n.k : Int) == 4) = false := by rw [hk]; rfl
      have t5 : ((n.k : Int) == 5) = false := by rw [hk]; rfl
      have tb : decide ((2 : Int) < n.k) = false := by rw [hk]; rfl
      clear hmay hch hset hseq halt htms hemp hk ih hab
      go_enter Tryd.func39, Tryd.ntmps39
      go_wp2_with fail
      go_ret
      exact ⟨rfl, HB2.out⟩
    · have HV : Hid (dF ns i = 1) := Lib.hid (by unfold dF; rw [hset hk]; rfl)
      rw [HV.out]
      have t2 : ((n.k : Int) == 2) = true := by rw [hk]; rfl
      have t3 : ((n.k : Int) == 3) = false := by rw [hk]; rfl
      have t4 : ((n.k : Int) == 4) = false := by rw [hk]; rfl
      have t5 : ((n.k : Int) == 5) = false := by rw [hk]; rfl
      have tb : decide ((2 : Int) < n.k) = false := by rw [hk]; rfl
      clear hmay hch hset hseq halt htms hemp hk ih hab
      go_enter Tryd.func39, Tryd.ntmps39
      go_wp2_with fail
      go_ret
      exact ⟨rfl, HB2.out⟩
    · have e : Tr.below n = [n.a, n.b] := by unfold Tr.below; simp [hk]
      have ha := hch n.a (by simp [e])
      have hb := hch n.b (by simp [e])
      obtain ⟨x, hx⟩ := Int.eq_ofNat_of_zero_le ha.1
      obtain ⟨y, hy⟩ := Int.eq_ofNat_of_zero_le hb.1
      have IX := ih x (by omega) (by omega)
      have IY := ih y (by omega) (by omega)
      unfold DeepSaid at IX IY
      rw [← hx] at IX
      rw [← hy] at IY
      have HV : dF ns i = max (dF ns x) (dF ns y) + 1 := by
        unfold dF
        rw [hseq hk, hx, hy]
        simp only [Int.toNat_natCast]
        show ((max _ _ + 1 : Nat) : Int) = _
        omega
      rw [HV]
      have bx := dF_bd hd x
      have by' := dF_bd hd y
      generalize dF ns x = vx at *
      generalize dF ns y = vy at *
      have bx1 : 0 ≤ vx := bx.1
      have bx2 : vx ≤ 600 := by omega
      have by1 : 0 ≤ vy := by'.1
      have by2 : vy ≤ 600 := by omega
      have t2 : ((n.k : Int) == 2) = false := by rw [hk]; rfl
      have t3 : ((n.k : Int) == 3) = true := by rw [hk]; rfl
      have t4 : ((n.k : Int) == 4) = false := by rw [hk]; rfl
      have t5 : ((n.k : Int) == 5) = false := by rw [hk]; rfl
      have tb : decide ((2 : Int) < n.k) = true := by rw [hk]; rfl
      have HX := Lib.hid IX
      have HY := Lib.hid IY
      clear hmay hch hset hseq halt htms hemp hk ih hab e ha hb hx hy HV bx by' IX IY
      by_cases hgt : vx < vy
      · have HM : Hid (max vx vy + 1 = vy + 1) := Lib.hid (by omega)
        rw [HM.out]
        have dg : decide (vx < vy) = true := decide_eq_true hgt
        clear hgt
        go_enter Tryd.func39, Tryd.ntmps39
        go_wp2_with fail
        refine (HX.out _ (HTW.out _ (Below.refl _ _)).1).mono ?_
        rintro e w1 ⟨rfl, B1⟩
        obtain ⟨z0, z1, z2, z3, z4, z5, z6⟩ := HZ.out _ B1
        clear c0 c1 c2 c3 c4 c5 c6 c7 c8
        go_wp2_with fail
        refine (HY.out _ (HTW.out _ B1).1).mono ?_
        rintro e w2 ⟨rfl, B2⟩
        have HB3 := Lib.hid (HTW.out _ (bthen B1 B2)).2
        clear z0 z1 z2 z3 z4 z5 z6 B1 B2
        go_wp2_with fail
        go_ret
        exact ⟨rfl, HB3.out⟩
      · have HM : Hid (max vx vy + 1 = vx + 1) := Lib.hid (by omega)
        rw [HM.out]
        have dg : decide (vx < vy) = false := decide_eq_false hgt
        clear hgt
        go_enter Tryd.func39, Tryd.ntmps39
        go_wp2_with fail
        refine (HX.out _ (HTW.out _ (Below.refl _ _)).1).mono ?_
        rintro e w1 ⟨rfl, B1⟩
        obtain ⟨z0, z1, z2, z3, z4, z5, z6⟩ := HZ.out _ B1
        clear c0 c1 c2 c3 c4 c5 c6 c7 c8
        go_wp2_with fail
        refine (HY.out _ (HTW.out _ B1).1).mono ?_
        rintro e w2 ⟨rfl, B2⟩
        have HB3 := Lib.hid (HTW.out _ (bthen B1 B2)).2
        clear z0 z1 z2 z3 z4 z5 z6 B1 B2
        go_wp2_with fail
        go_ret
        exact ⟨rfl, HB3.out⟩
    · have e : Tr.below n = [n.a, n.b] := by unfold Tr.below; simp [hk]
      have ha := hch n.a (by simp [e])
      have hb := hch n.b (by simp [e])
      obtain ⟨x, hx⟩ := Int.eq_ofNat_of_zero_le ha.1
      obtain ⟨y, hy⟩ := Int.eq_ofNat_of_zero_le hb.1
      have IX := ih x (by omega) (by omega)
      have IY := ih y (by omega) (by omega)
      unfold DeepSaid at IX IY
      rw [← hx] at IX
      rw [← hy] at IY
      have HV : dF ns i = max (dF ns x) (dF ns y) + 1 := by
        unfold dF
        rw [halt hk, hx, hy]
        simp only [Int.toNat_natCast]
        show ((max _ _ + 1 : Nat) : Int) = _
        omega
      rw [HV]
      have bx := dF_bd hd x
      have by' := dF_bd hd y
      generalize dF ns x = vx at *
      generalize dF ns y = vy at *
      have bx1 : 0 ≤ vx := bx.1
      have bx2 : vx ≤ 600 := by omega
      have by1 : 0 ≤ vy := by'.1
      have by2 : vy ≤ 600 := by omega
      have t2 : ((n.k : Int) == 2) = false := by rw [hk]; rfl
      have t3 : ((n.k : Int) == 3) = false := by rw [hk]; rfl
      have t4 : ((n.k : Int) == 4) = true := by rw [hk]; rfl
      have t5 : ((n.k : Int) == 5) = false := by rw [hk]; rfl
      have tb : decide ((2 : Int) < n.k) = true := by rw [hk]; rfl
      have HX := Lib.hid IX
      have HY := Lib.hid IY
      clear hmay hch hset hseq halt htms hemp hk ih hab e ha hb hx hy HV bx by' IX IY
      by_cases hgt : vx < vy
      · have HM : Hid (max vx vy + 1 = vy + 1) := Lib.hid (by omega)
        rw [HM.out]
        have dg : decide (vx < vy) = true := decide_eq_true hgt
        clear hgt
        go_enter Tryd.func39, Tryd.ntmps39
        go_wp2_with fail
        refine (HX.out _ (HTW.out _ (Below.refl _ _)).1).mono ?_
        rintro e w1 ⟨rfl, B1⟩
        obtain ⟨z0, z1, z2, z3, z4, z5, z6⟩ := HZ.out _ B1
        clear c0 c1 c2 c3 c4 c5 c6 c7 c8
        go_wp2_with fail
        refine (HY.out _ (HTW.out _ B1).1).mono ?_
        rintro e w2 ⟨rfl, B2⟩
        have HB3 := Lib.hid (HTW.out _ (bthen B1 B2)).2
        clear z0 z1 z2 z3 z4 z5 z6 B1 B2
        go_wp2_with fail
        go_ret
        exact ⟨rfl, HB3.out⟩
      · have HM : Hid (max vx vy + 1 = vx + 1) := Lib.hid (by omega)
        rw [HM.out]
        have dg : decide (vx < vy) = false := decide_eq_false hgt
        clear hgt
        go_enter Tryd.func39, Tryd.ntmps39
        go_wp2_with fail
        refine (HX.out _ (HTW.out _ (Below.refl _ _)).1).mono ?_
        rintro e w1 ⟨rfl, B1⟩
        obtain ⟨z0, z1, z2, z3, z4, z5, z6⟩ := HZ.out _ B1
        clear c0 c1 c2 c3 c4 c5 c6 c7 c8
        go_wp2_with fail
        refine (HY.out _ (HTW.out _ B1).1).mono ?_
        rintro e w2 ⟨rfl, B2⟩
        have HB3 := Lib.hid (HTW.out _ (bthen B1 B2)).2
        clear z0 z1 z2 z3 z4 z5 z6 B1 B2
        go_wp2_with fail
        go_ret
        exact ⟨rfl, HB3.out⟩
    · have e : Tr.below n = [n.a] := by unfold Tr.below; simp [hk]
      have ha := hch n.a (by simp [e])
      obtain ⟨x, hx⟩ := Int.eq_ofNat_of_zero_le ha.1
      have IX := ih x (by omega) (by omega)
      unfold DeepSaid at IX
      rw [← hx] at IX
      have HV : dF ns i = dF ns x + 1 := by
        unfold dF
        rw [htms hk, hx]
        simp only [Int.toNat_natCast]
        rfl
      rw [HV]
      have bx := dF_bd hd x
      generalize dF ns x = vx at *
      have bx1 : 0 ≤ vx := bx.1
      have bx2 : vx ≤ 600 := by omega
      have t2 : ((n.k : Int) == 2) = false := by rw [hk]; rfl
      have t3 : ((n.k : Int) == 3) = false := by rw [hk]; rfl
      have t4 : ((n.k : Int) == 4) = false := by rw [hk]; rfl
      have t5 : ((n.k : Int) == 5) = true := by rw [hk]; rfl
      have tb : decide ((2 : Int) < n.k) = true := by rw [hk]; rfl
      have HX := Lib.hid IX
      clear hmay hch hset hseq halt htms hemp hk ih hab e ha hx HV bx IX
      go_enter Tryd.func39, Tryd.ntmps39
      go_wp2_with fail
      refine (HX.out _ (HTW.out _ (Below.refl _ _)).1).mono ?_
      rintro e w1 ⟨rfl, B1⟩
      obtain ⟨z0, z1, z2, z3, z4, z5, z6⟩ := HZ.out _ B1
      have HB3 := Lib.hid (HTW.out _ B1).2
      clear c0 c1 c2 c3 c4 c5 c6 c7 c8 B1
      go_wp2_with fail
      go_ret
      exact ⟨rfl, HB3.out⟩
set_option maxRecDepth 100000 in
set_option maxHeartbeats 6400000 in
theorem rplaces_f (A A' : Option Addr) (ns : List Nd) (ps : List Pt) (c c' : Nat) (hG : Tr.Good ns ps) (f : Nat) : ∀ i, i < f → i < ns.length → PlacesSaid A A' ns ps c c' i := by
  induction f with
  | zero => intro i h; omega
  | succ f ih =>
    intro i hf hi w hP
    have hd : Tr.Dn ns := hG.dn
    have hn : ns[i]? = some ns[i] := List.getElem?_eq_getElem hi
    have hmem := List.getElem_mem hi
    obtain ⟨a, ha, hab, hNA⟩ := hP.nodes i hi
    have hle := hG.n2
    have hmay := hG.my _ hmem
    have hch := hd i _ hn
    subst ha
    have hB0 : Below w.heap.size w (w.alloc (.cells #[.slice (some a) ns.length c, .slice A' ps.length c'] 33)) := by (repeat (first | exact Below.refl _ _ | assumption | refine Below.drew ?_ | refine Below.alloc ?_ (by first | exact Nat.le_refl _ | (simp; done) | (simp; omega) | omega) _ | refine Below.setCell ?_ (by first | exact Nat.le_refl _ | (simp; done) | (simp; omega) | omega) _))
    obtain ⟨c0, c1, c2, c3, c4, c5, c6, c7, c8⟩ := hNA.below hB0 (by rw [add_block]; exact hab)
    have hset := fun h => Tr.tr_set hn h
    have hseq := fun h => Tr.tr_seq hd hn h
    have halt := fun h => Tr.tr_alt hd hn h
    have htms := fun h => Tr.tr_tms hd hn h
    have hemp := fun h2 h3 h4 h5 => Tr.tr_emp hn h2 h3 h4 h5
    generalize ns[i] = n at *
    have hB2 : Below w.heap.size w ((w.alloc (.cells #[.slice (some a) ns.length c, .slice A' ps.length c'] 33)).alloc (.cells #[.int .u8 n.k, .int .u64 n.s.a, .int .u64 n.s.b, .int .u64 n.s.c, .int .u64 n.s.d, .int .i64 n.a, .int .i64 n.b, .int .i64 n.mn, .int .i64 n.mx] 27)) := by (repeat (first | exact Below.refl _ _ | assumption | refine Below.drew ?_ | refine Below.alloc ?_ (by first | exact Nat.le_refl _ | (simp; done) | (simp; omega) | omega) _ | refine Below.setCell ?_ (by first | exact Nat.le_refl _ | (simp; done) | (simp; omega) | omega) _))
    have HTW : Hid (∀ z, Below ((w.alloc (.cells #[.slice (some a) ns.length c, .slice A' ps.length c'] 33)).alloc (.cells #[.int .u8 n.k, .int .u64 n.s.a, .int .u64 n.s.b, .int .u64 n.s.c, .int .u64 n.s.d, .int .i64 n.a, .int .i64 n.b, .int .i64 n.mn, .int .i64 n.mx] 27)).heap.size ((w.alloc (.cells #[.slice (some a) ns.length c, .slice A' ps.length c'] 33)).alloc (.cells #[.int .u8 n.k, .int .u64 n.s.a, .int .u64 n.s.b, .int .u64 n.s.c, .int .u64 n.s.d, .int .i64 n.a, .int .i64 n.b, .int .i64 n.mn, .int .i64 n.mx] 27)) z → TreeAt z (some a) A' ns ps ∧ Below w.heap.size w z) := Lib.hid fun z hz => ⟨hP.below (bthen hB2 hz), bthen hB2 hz⟩
    have HZ : Hid (∀ z, Below ((w.alloc (.cells #[.slice (some a) ns.length c, .slice A' ps.length c'] 33)).alloc (.cells #[.int .u8 n.k, .int .u64 n.s.a, .int .u64 n.s.b, .int .u64 n.s.c, .int .u64 n.s.d, .int .i64 n.a, .int .i64 n.b, .int .i64 n.mn, .int .i64 n.mx] 27)).heap.size ((w.alloc (.cells #[.slice (some a) ns.length c, .slice A' ps.length c'] 33)).alloc (.cells #[.int .u8 n.k, .int .u64 n.s.a, .int .u64 n.s.b, .int .u64 n.s.c, .int .u64 n.s.d, .int .i64 n.a, .int .i64 n.b, .int .i64 n.mn, .int .i64 n.mx] 27)) z → z.cell? ⟨w.heap.size, 0, none⟩ = some (.slice (some a) ns.length c) ∧ z.cell? ⟨w.heap.size, 1, none⟩ = some (.slice A' ps.length c') ∧ z.cell? ⟨w.heap.size + 1, 0, none⟩ = some (.int .u8 n.k) ∧ z.cell? ⟨w.heap.size + 1, 5, none⟩ = some (.int .i64 n.a) ∧ z.cell? ⟨w.heap.size + 1, 6, none⟩ = some (.int .i64 n.b) ∧ z.cell? ⟨w.heap.size + 1, 7, none⟩ = some (.int .i64 n.mn) ∧ z.cell? ⟨w.heap.size + 1, 8, none⟩ = some (.int .i64 n.mx)) := by
      refine Lib.hid fun z hz => ?_
      have k1 := blk_below (blk_alloc (blk_new w (.cells #[.slice (some a) ns.length c, .slice A' ps.length c'] 33)) (.cells #[.int .u8 n.k, .int .u64 n.s.a, .int .u64 n.s.b, .int .u64 n.s.c, .int .u64 n.s.d, .int .i64 n.a, .int .i64 n.b, .int .i64 n.mn, .int .i64 n.mx] 27)) hz
      have k2 := blk_below (blk_new_at (w.alloc (.cells #[.slice (some a) ns.length c, .slice A' ps.length c'] 33)) (.cells #[.int .u8 n.k, .int .u64 n.s.a, .int .u64 n.s.b, .int .u64 n.s.c, .int .u64 n.s.d, .int .i64 n.a, .int .i64 n.b, .int .i64 n.mn, .int .i64 n.mx] 27) (w.heap.size + 1) (by simp)) hz
      exact ⟨(blk_cell k1 0).trans rfl, (blk_cell k1 1).trans rfl, (blk_cell k2 0).trans rfl, (blk_cell k2 5).trans rfl, (blk_cell k2 6).trans rfl, (blk_cell k2 7).trans rfl, (blk_cell k2 8).trans rfl⟩
    have HB2 := Lib.hid hB2
    clear hNA hB0 hB2 hP hn hmem
    rcases Tr.may_kind hmay with hk | hk | hk | hk | hk
    · have HV : Hid (pF ns i = 0) := Lib.hid (by unfold pF; rw [hemp (by omega) (by omega) (by omega) (by omega)]; rfl)
      rw [HV.out]
      have t2 : ((n.k : Int) == 2) = false := by rw [hk]; rfl
      have t3 : ((n.k : Int) == 3) = false := by rw [hk]; rfl
      have t4 : ((n.k : Int) == 4) = false := by rw [hk]; rfl
      have t5 : ((n.k : Int) == 5) = false := by rw [hk]; rfl
      have tb : decide ((2 : Int) < n.k) = false := by rw [hk]; rfl
      clear hmay hch hset hseq halt htms hemp hk ih hab
      go_enter Tryd.func38, Tryd.ntmps38
      go_wp2_with fail
      go_ret
      exact ⟨rfl, HB2.out⟩
    · have HV : Hid (pF ns i = 1) := Lib.hid (by unfold pF; rw [hset hk]; rfl)
      rw [HV.out]
      have t2 : ((n.k : Int) == 2) = true := by rw [hk]; rfl
      have t3 : ((n.k : Int) == 3) = false := by rw [hk]; rfl
      have t4 : ((n.k : Int) == 4) = false := by rw [hk]; rfl
      have t5 : ((n.k : Int) == 5) = false := by rw [hk]; rfl
      have tb : decide ((2 : Int) < n.k) = false := by rw [hk]; rfl
      clear hmay hch hset hseq halt htms hemp hk ih hab
      go_enter Tryd.func38, Tryd.ntmps38
      go_wp2_with fail
      go_ret
      exact ⟨rfl, HB2.out⟩
    · have e : Tr.below n = [n.a, n.b] := by unfold Tr.below; simp [hk]
      have ha := hch n.a (by simp [e])
      have hb := hch n.b (by simp [e])
      obtain ⟨x, hx⟩ := Int.eq_ofNat_of_zero_le ha.1
      obtain ⟨y, hy⟩ := Int.eq_ofNat_of_zero_le hb.1
      have IX := ih x (by omega) (by omega)
      have IY := ih y (by omega) (by omega)
      unfold PlacesSaid at IX IY
      have HV : pF ns i = min (pF ns x + pF ns y) 1073741824 := by
        unfold pF
        rw [hseq hk, hx, hy]
        simp only [Int.toNat_natCast]
        show ((min _ Tr.cap : Nat) : Int) = _
        unfold Tr.cap
        omega
      rw [HV]
      have bx := pF_bd ns x
      have by' := pF_bd ns y
      generalize pF ns x = vx at *
      generalize pF ns y = vy at *
      obtain ⟨bx1, bx2⟩ := bx
      obtain ⟨by1, by2⟩ := by'
      have t2 : ((n.k : Int) == 2) = false := by rw [hk]; rfl
      have t3 : ((n.k : Int) == 3) = true := by rw [hk]; rfl
      have t4 : ((n.k : Int) == 4) = false := by rw [hk]; rfl
      have t5 : ((n.k : Int) == 5) = false := by rw [hk]; rfl
      have tb : decide ((2 : Int) < n.k) = true := by rw [hk]; rfl
      rw [← hx] at IX
      rw [← hy] at IY
      have HX := Lib.hid IX
      have HY := Lib.hid IY
      clear hmay hch hset hseq halt htms hemp hk ih hab e ha hb hx hy HV IX IY
      have hvs : min (vx + vy) 1073741824 = if 1073741824 < vx + vy then 1073741824 else vx + vy := by split <;> omega
      rw [hvs]
      clear hvs
      have hwr : IntKind.i64.wrap (vx + vy) = vx + vy := IntWalk.i64_in _ (by omega)
      by_cases hgt : 1073741824 < vx + vy
      all_goals
        first | rw [if_pos hgt] | rw [if_neg hgt]
        first | (have dg : decide (1073741824 < vx + vy) = true := decide_eq_true hgt) | (have dg : decide (1073741824 < vx + vy) = false := decide_eq_false hgt)
        go_enter Tryd.func38, Tryd.ntmps38
        go_wp2_with fail
        clear c0 c1 c2 c3 c4 c5 c6 c7 c8
        generalize (w.alloc (.cells #[.slice (some a) ns.length c, .slice A' ps.length c'] 33)).alloc (.cells #[.int .u8 n.k, .int .u64 n.s.a, .int .u64 n.s.b, .int .u64 n.s.c, .int .u64 n.s.d, .int .i64 n.a, .int .i64 n.b, .int .i64 n.mn, .int .i64 n.mx] 27) = W0 at HTW HZ HB2 ⊢
        have K1 := HZ.out _ (Below.refl _ _)
        go_region_held3 (fun z => Below W0.heap.size W0 z ∧ z.cell? ⟨w.heap.size, 0, none⟩ = some (.slice (some a) ns.length c) ∧ z.cell? ⟨w.heap.size, 1, none⟩ = some (.slice A' ps.length c') ∧ z.cell? ⟨w.heap.size + 1, 0, none⟩ = some (.int .u8 n.k) ∧ z.cell? ⟨w.heap.size + 1, 5, none⟩ = some (.int .i64 n.a) ∧ z.cell? ⟨w.heap.size + 1, 6, none⟩ = some (.int .i64 n.b) ∧ z.cell? ⟨w.heap.size + 1, 7, none⟩ = some (.int .i64 n.mn) ∧ z.cell? ⟨w.heap.size + 1, 8, none⟩ = some (.int .i64 n.mx)) ((refine ⟨?_, HZ.out _ ?_⟩ <;> (repeat (first | (with_reducible exact Below.refl _ _) | (with_reducible refine Below.drew ?_) | (with_reducible refine bl_drewN ?_ _) | ((with_reducible apply bthen); rotate_left; assumption))))) ((go_at_call 38; first | ((with_reducible refine (HX.out _ ?_).mono ?_); (focus (refine (HTW.out _ ?_).1; (repeat (first | (with_reducible exact Below.refl _ _) | (with_reducible refine Below.drew ?_) | (with_reducible refine bl_drewN ?_ _) | ((with_reducible apply bthen); rotate_left; assumption))); done)); rintro e w3 ⟨rfl, B3⟩) | ((with_reducible refine (HY.out _ ?_).mono ?_); (focus (refine (HTW.out _ ?_).1; (repeat (first | (with_reducible exact Below.refl _ _) | (with_reducible refine Below.drew ?_) | (with_reducible refine bl_drewN ?_ _) | ((with_reducible apply bthen); rotate_left; assumption))); done)); rintro e w4 ⟨rfl, B4⟩)))
        all_goals
          go_wp2_with fail
          go_ret
          refine ⟨rfl, (HTW.out _ ?_).2⟩
          (repeat (first | (with_reducible exact Below.refl _ _) | (with_reducible refine Below.drew ?_) | (with_reducible refine bl_drewN ?_ _) | ((with_reducible apply bthen); rotate_left; assumption)))
    · have e : Tr.below n = [n.a, n.b] := by unfold Tr.below; simp [hk]
      have ha := hch n.a (by simp [e])
      have hb := hch n.b (by simp [e])
      obtain ⟨x, hx⟩ := Int.eq_ofNat_of_zero_le ha.1
      obtain ⟨y, hy⟩ := Int.eq_ofNat_of_zero_le hb.1
      have IX := ih x (by omega) (by omega)
      have IY := ih y (by omega) (by omega)
      unfold PlacesSaid at IX IY
      have HV : pF ns i = min (pF ns x + pF ns y) 1073741824 := by
        unfold pF
        rw [halt hk, hx, hy]
        simp only [Int.toNat_natCast]
        show ((min _ Tr.cap : Nat) : Int) = _
        unfold Tr.cap
        omega
      rw [HV]
      have bx := pF_bd ns x
      have by' := pF_bd ns y
      generalize pF ns x = vx at *
      generalize pF ns y = vy at *
      obtain ⟨bx1, bx2⟩ := bx
      obtain ⟨by1, by2⟩ := by'
      have t2 : ((n.k : Int) == 2) = false := by rw [hk]; rfl
      have t3 : ((n.k : Int) == 3) = false := by rw [hk]; rfl
      have t4 : ((n.k : Int) == 4) = true := by rw [hk]; rfl
      have t5 : ((n.k : Int) == 5) = false := by rw [hk]; rfl
      have tb : decide ((2 : Int) < n.k) = true := by rw [hk]; rfl
      rw [← hx] at IX
      rw [← hy] at IY
      have HX := Lib.hid IX
      have HY := Lib.hid IY
      clear hmay hch hset hseq halt htms hemp hk ih hab e ha hb hx hy HV IX IY
      have hvs : min (vx + vy) 1073741824 = if 1073741824 < vx + vy then 1073741824 else vx + vy := by split <;> omega
      rw [hvs]
      clear hvs
      have hwr : IntKind.i64.wrap (vx + vy) = vx + vy := IntWalk.i64_in _ (by omega)
      by_cases hgt : 1073741824 < vx + vy
      all_goals
        first | rw [if_pos hgt] | rw [if_neg hgt]
        first | (have dg : decide (1073741824 < vx + vy) = true := decide_eq_true hgt) | (have dg : decide (1073741824 < vx + vy) = false := decide_eq_false hgt)
        go_enter Tryd.func38, Tryd.ntmps38
        go_wp2_with fail
        clear c0 c1 c2 c3 c4 c5 c6 c7 c8
        generalize (w.alloc (.cells #[.slice (some a) ns.length c, .slice A' ps.length c'] 33)).alloc (.cells #[.int .u8 n.k, .int .u64 n.s.a, .int .u64 n.s.b, .int .u64 n.s.c, .int .u64 n.s.d, .int .i64 n.a, .int .i64 n.b, .int .i64 n.mn, .int .i64 n.mx] 27) = W0 at HTW HZ HB2 ⊢
        have K1 := HZ.out _ (Below.refl _ _)
        go_region_held3 (fun z => Below W0.heap.size W0 z ∧ z.cell? ⟨w.heap.size, 0, none⟩ = some (.slice (some a) ns.length c) ∧ z.cell? ⟨w.heap.size, 1, none⟩ = some (.slice A' ps.length c') ∧ z.cell? ⟨w.heap.size + 1, 0, none⟩ = some (.int .u8 n.k) ∧ z.cell? ⟨w.heap.size + 1, 5, none⟩ = some (.int .i64 n.a) ∧ z.cell? ⟨w.heap.size + 1, 6, none⟩ = some (.int .i64 n.b) ∧ z.cell? ⟨w.heap.size + 1, 7, none⟩ = some (.int .i64 n.mn) ∧ z.cell? ⟨w.heap.size + 1, 8, none⟩ = some (.int .i64 n.mx)) ((refine ⟨?_, HZ.out _ ?_⟩ <;> (repeat (first | (with_reducible exact Below.refl _ _) | (with_reducible refine Below.drew ?_) | (with_reducible refine bl_drewN ?_ _) | ((with_reducible apply bthen); rotate_left; assumption))))) ((go_at_call 38; first | ((with_reducible refine (HX.out _ ?_).mono ?_); (focus (refine (HTW.out _ ?_).1; (repeat (first | (with_reducible exact Below.refl _ _) | (with_reducible refine Below.drew ?_) | (with_reducible refine bl_drewN ?_ _) | ((with_reducible apply bthen); rotate_left; assumption))); done)); rintro e w3 ⟨rfl, B3⟩) | ((with_reducible refine (HY.out _ ?_).mono ?_); (focus (refine (HTW.out _ ?_).1; (repeat (first | (with_reducible exact Below.refl _ _) | (with_reducible refine Below.drew ?_) | (with_reducible refine bl_drewN ?_ _) | ((with_reducible apply bthen); rotate_left; assumption))); done)); rintro e w4 ⟨rfl, B4⟩)))
        all_goals
          go_wp2_with fail
          go_ret
          refine ⟨rfl, (HTW.out _ ?_).2⟩
          (repeat (first | (with_reducible exact Below.refl _ _) | (with_reducible refine Below.drew ?_) | (with_reducible refine bl_drewN ?_ _) | ((with_reducible apply bthen); rotate_left; assumption)))
    · have e : Tr.below n = [n.a] := by unfold Tr.below; simp [hk]
      have ha := hch n.a (by simp [e])
      obtain ⟨x, hx⟩ := Int.eq_ofNat_of_zero_le ha.1
      have IX := ih x (by omega) (by omega)
      unfold PlacesSaid at IX
      rw [← hx] at IX
      have HV : pF ns i = if 0 ≤ n.mx then (if 1073741824 < pF ns x * n.mx then 1073741824 else pF ns x * n.mx) else pF ns x := by
        unfold pF
        rw [htms hk, hx]
        simp only [Int.toNat_natCast]
        rw [Tr.plc]
        by_cases h0 : 0 ≤ n.mx
        · rw [if_pos h0, if_pos h0]
          obtain ⟨q, hq⟩ := Int.eq_ofNat_of_zero_le h0
          rw [hq, Int.toNat_natCast]
          unfold Tr.cap
          rw [← Int.natCast_mul]
          generalize Tr.plc (Tr.tr ns x) * q = z
          split <;> omega
        · rw [if_neg h0, if_neg h0]
      rw [HV]
      have bx := pF_bd ns x
      generalize pF ns x = vx at *
      obtain ⟨bx1, bx2⟩ := bx
      have HX := Lib.hid IX
      have hmx := Tr.may_times hmay
      have t2 : ((n.k : Int) == 2) = false := by rw [hk]; rfl
      have t3 : ((n.k : Int) == 3) = false := by rw [hk]; rfl
      have t4 : ((n.k : Int) == 4) = false := by rw [hk]; rfl
      have t5 : ((n.k : Int) == 5) = true := by rw [hk]; rfl
      clear hmay hch hset hseq halt htms hemp hk ih hab e ha hx HV IX
      by_cases h0 : 0 ≤ n.mx
      · rw [if_pos h0]
        have d0 : decide (0 ≤ n.mx) = true := decide_eq_true h0
        have h9 : n.mx ≤ 9 := by omega
        have hm1 : 0 ≤ vx * n.mx := Int.mul_nonneg bx1 h0
        have hm2 : vx * n.mx ≤ 1073741824 * 9 := Int.mul_le_mul bx2 h9 h0 (by omega)
        have hwr : IntKind.i64.wrap (vx * n.mx) = vx * n.mx := IntWalk.i64_in _ (by omega)
        clear hmx h9
        by_cases hgt : 1073741824 < vx * n.mx
        all_goals
          first | rw [if_pos hgt] | rw [if_neg hgt]
          first | (have dg : decide (1073741824 < vx * n.mx) = true := decide_eq_true hgt) | (have dg : decide (1073741824 < vx * n.mx) = false := decide_eq_false hgt)
          go_enter Tryd.func38, Tryd.ntmps38
          go_wp2_with fail
          refine (HX.out _ (HTW.out _ (Below.refl _ _)).1).mono ?_
          rintro e w1 ⟨rfl, B1⟩
          obtain ⟨z0, z1, z2, z3, z4, z5, z6⟩ := HZ.out _ B1
          have HB3 := Lib.hid (HTW.out _ B1).2
          clear c0 c1 c2 c3 c4 c5 c6 c7 c8 B1
          go_wp2_with fail
          go_ret
          exact ⟨rfl, HB3.out⟩
      · rw [if_neg h0]
        have d0 : decide (0 ≤ n.mx) = false := decide_eq_false h0
        have dg : decide (1073741824 < vx) = false := decide_eq_false (by omega)
        clear hmx h0
        go_enter Tryd.func38, Tryd.ntmps38
        go_wp2_with fail
        refine (HX.out _ (HTW.out _ (Below.refl _ _)).1).mono ?_
        rintro e w1 ⟨rfl, B1⟩
        obtain ⟨z0, z1, z2, z3, z4, z5, z6⟩ := HZ.out _ B1
        have HB3 := Lib.hid (HTW.out _ B1).2
        clear c0 c1 c2 c3 c4 c5 c6 c7 c8 B1
        go_wp2_with fail
        go_ret
        exact ⟨rfl, HB3.out⟩
end Go.Proofs.YtebkaajnnjfhjaaDoor
