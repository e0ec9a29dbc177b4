/-
  Law 06's Alike: walked.
-/
import Derived.Test.YtebkaajnnjfhjaaDoorAwk6
namespace Go.Proofs.YtebkaajnnjfhjaaDoor
set_option linter.unusedVariables false
set_option linter.unusedSimpArgs false
open Go.RowKit Go.Proofs.YtebkaajnnjfhjaaDoorW.PrintWords
open Tr (Nd Pt)

def AlikeSaid (A A' B B' : Option Addr) (ns ms : List Nd) (ps qs : List Pt) (c c' d d' i k : Nat) (v : Bool) : Prop := ∀ w, TreeAt w A A' ns ps → TreeAt w B B' ms qs →
  Calls Tryd.prog 19 #[.agg #[.slice A ns.length c, .slice A' ps.length c'], .agg #[.slice B ms.length d, .slice B' qs.length d'], .int .i64 i, .int .i64 k] w fun e w' => e = .returned (.bool v) ∧ Below w.heap.size w w'
theorem boxes_below (w : World) (o o' : Obj) : Below w.heap.size w ((w.alloc o).alloc o') := by (repeat (first | exact Below.refl _ _ | assumption | refine Below.drew ?_ | refine Below.alloc ?_ (by first | exact Nat.le_refl _ | (simp; done) | (simp; omega) | omega) _ | refine Below.setCell ?_ (by first | exact Nat.le_refl _ | (simp; done) | (simp; omega) | omega) _))
set_option maxRecDepth 100000 in
set_option maxHeartbeats 6400000 in
theorem alike_f (A A' B B' : Option Addr) (ns ms : List Nd) (ps qs : List Pt) (c c' d d' : Nat) (hd : Tr.Dn ns) (he : Tr.Dn ms) (f : Nat) : ∀ i k, i < f → i < ns.length → k < ms.length → AlikeSaid A A' B B' ns ms ps qs c c' d d' i k (Tr.likeF ns ms f i k) := by
  induction f with
  | zero => intro i k h; omega
  | succ f ih =>
    intro i k hf hi hk w hS hT
    have hn : ns[i]? = some ns[i] := List.getElem?_eq_getElem hi
    have ho : ms[k]? = some ms[k] := List.getElem?_eq_getElem hk
    have cx := hd i _ hn
    have cy := he k _ ho
    have hnl := hS.nlen
    have hml := hT.nlen
    obtain ⟨a, ha, hab, hNA⟩ := hS.nodes i hi
    obtain ⟨b, hb, hbb, hNB⟩ := hT.nodes k hk
    rw [Tr.likeF, hn, ho]
    subst ha hb
    have HTW : Hid (∀ z, Below w.heap.size w z → TreeAt z (some a) A' ns ps ∧ TreeAt z (some b) B' ms qs) := Lib.hid fun z hz => ⟨hS.below hz, hT.below hz⟩
    generalize ns[i] = x at *
    generalize ms[k] = y at *
    simp only
    clear hn ho hS hT
    obtain ⟨c0, c1, c2, c3, c4, c5, c6, c7, c8⟩ := hNA.below (boxes_below w (.cells #[.slice (some a) ns.length c, .slice A' ps.length c'] 33) (.cells #[.slice (some b) ms.length d, .slice B' qs.length d'] 33)) (by rw [add_block]; exact hab)
    obtain ⟨d0, d1, d2, d3, d4, d5, d6, d7, d8⟩ := hNB.below (B := w.heap.size) (W' := (((w.alloc (.cells #[.slice (some a) ns.length c, .slice A' ps.length c'] 33)).alloc (.cells #[.slice (some b) ms.length d, .slice B' qs.length d'] 33)).alloc (.cells #[.int .u8 x.k, .int .u64 x.s.a, .int .u64 x.s.b, .int .u64 x.s.c, .int .u64 x.s.d, .int .i64 x.a, .int .i64 x.b, .int .i64 x.mn, .int .i64 x.mx] 27))) (by (repeat (first | exact Below.refl _ _ | assumption | refine Below.drew ?_ | refine Below.alloc ?_ (by first | exact Nat.le_refl _ | (simp; done) | (simp; omega) | omega) _ | refine Below.setCell ?_ (by first | exact Nat.le_refl _ | (simp; done) | (simp; omega) | omega) _))) (by rw [add_block]; exact hbb)
    have hsz : w.heap.size + 4 = ((((w.alloc (.cells #[.slice (some a) ns.length c, .slice A' ps.length c'] 33)).alloc (.cells #[.slice (some b) ms.length d, .slice B' qs.length d'] 33)).alloc (.cells #[.int .u8 x.k, .int .u64 x.s.a, .int .u64 x.s.b, .int .u64 x.s.c, .int .u64 x.s.d, .int .i64 x.a, .int .i64 x.b, .int .i64 x.mn, .int .i64 x.mx] 27)).alloc (.cells #[.int .u8 y.k, .int .u64 y.s.a, .int .u64 y.s.b, .int .u64 y.s.c, .int .u64 y.s.d, .int .i64 y.a, .int .i64 y.b, .int .i64 y.mn, .int .i64 y.mx] 27)).heap.size := by simp
    have hB4 : Below w.heap.size w ((((w.alloc (.cells #[.slice (some a) ns.length c, .slice A' ps.length c'] 33)).alloc (.cells #[.slice (some b) ms.length d, .slice B' qs.length d'] 33)).alloc (.cells #[.int .u8 x.k, .int .u64 x.s.a, .int .u64 x.s.b, .int .u64 x.s.c, .int .u64 x.s.d, .int .i64 x.a, .int .i64 x.b, .int .i64 x.mn, .int .i64 x.mx] 27)).alloc (.cells #[.int .u8 y.k, .int .u64 y.s.a, .int .u64 y.s.b, .int .u64 y.s.c, .int .u64 y.s.d, .int .i64 y.a, .int .i64 y.b, .int .i64 y.mn, .int .i64 y.mx] 27)) := by (repeat (first | exact Below.refl _ _ | assumption | refine Below.drew ?_ | refine Below.alloc ?_ (by first | exact Nat.le_refl _ | (simp; done) | (simp; omega) | omega) _ | refine Below.setCell ?_ (by first | exact Nat.le_refl _ | (simp; done) | (simp; omega) | omega) _))
    have HZ : Hid (((((w.alloc (.cells #[.slice (some a) ns.length c, .slice A' ps.length c'] 33)).alloc (.cells #[.slice (some b) ms.length d, .slice B' qs.length d'] 33)).alloc (.cells #[.int .u8 x.k, .int .u64 x.s.a, .int .u64 x.s.b, .int .u64 x.s.c, .int .u64 x.s.d, .int .i64 x.a, .int .i64 x.b, .int .i64 x.mn, .int .i64 x.mx] 27)).alloc (.cells #[.int .u8 y.k, .int .u64 y.s.a, .int .u64 y.s.b, .int .u64 y.s.c, .int .u64 y.s.d, .int .i64 y.a, .int .i64 y.b, .int .i64 y.mn, .int .i64 y.mx] 27)).cell? ⟨w.heap.size, 0, none⟩ = some (.slice (some a) ns.length c) ∧ ((((w.alloc (.cells #[.slice (some a) ns.length c, .slice A' ps.length c'] 33)).alloc (.cells #[.slice (some b) ms.length d, .slice B' qs.length d'] 33)).alloc (.cells #[.int .u8 x.k, .int .u64 x.s.a, .int .u64 x.s.b, .int .u64 x.s.c, .int .u64 x.s.d, .int .i64 x.a, .int .i64 x.b, .int .i64 x.mn, .int .i64 x.mx] 27)).alloc (.cells #[.int .u8 y.k, .int .u64 y.s.a, .int .u64 y.s.b, .int .u64 y.s.c, .int .u64 y.s.d, .int .i64 y.a, .int .i64 y.b, .int .i64 y.mn, .int .i64 y.mx] 27)).cell? ⟨w.heap.size, 1, none⟩ = some (.slice A' ps.length c') ∧ ((((w.alloc (.cells #[.slice (some a) ns.length c, .slice A' ps.length c'] 33)).alloc (.cells #[.slice (some b) ms.length d, .slice B' qs.length d'] 33)).alloc (.cells #[.int .u8 x.k, .int .u64 x.s.a, .int .u64 x.s.b, .int .u64 x.s.c, .int .u64 x.s.d, .int .i64 x.a, .int .i64 x.b, .int .i64 x.mn, .int .i64 x.mx] 27)).alloc (.cells #[.int .u8 y.k, .int .u64 y.s.a, .int .u64 y.s.b, .int .u64 y.s.c, .int .u64 y.s.d, .int .i64 y.a, .int .i64 y.b, .int .i64 y.mn, .int .i64 y.mx] 27)).cell? ⟨w.heap.size + 1, 0, none⟩ = some (.slice (some b) ms.length d) ∧ ((((w.alloc (.cells #[.slice (some a) ns.length c, .slice A' ps.length c'] 33)).alloc (.cells #[.slice (some b) ms.length d, .slice B' qs.length d'] 33)).alloc (.cells #[.int .u8 x.k, .int .u64 x.s.a, .int .u64 x.s.b, .int .u64 x.s.c, .int .u64 x.s.d, .int .i64 x.a, .int .i64 x.b, .int .i64 x.mn, .int .i64 x.mx] 27)).alloc (.cells #[.int .u8 y.k, .int .u64 y.s.a, .int .u64 y.s.b, .int .u64 y.s.c, .int .u64 y.s.d, .int .i64 y.a, .int .i64 y.b, .int .i64 y.mn, .int .i64 y.mx] 27)).cell? ⟨w.heap.size + 1, 1, none⟩ = some (.slice B' qs.length d') ∧ ((((w.alloc (.cells #[.slice (some a) ns.length c, .slice A' ps.length c'] 33)).alloc (.cells #[.slice (some b) ms.length d, .slice B' qs.length d'] 33)).alloc (.cells #[.int .u8 x.k, .int .u64 x.s.a, .int .u64 x.s.b, .int .u64 x.s.c, .int .u64 x.s.d, .int .i64 x.a, .int .i64 x.b, .int .i64 x.mn, .int .i64 x.mx] 27)).alloc (.cells #[.int .u8 y.k, .int .u64 y.s.a, .int .u64 y.s.b, .int .u64 y.s.c, .int .u64 y.s.d, .int .i64 y.a, .int .i64 y.b, .int .i64 y.mn, .int .i64 y.mx] 27)).cell? ⟨w.heap.size + 1 + 1, 6, none⟩ = some (.int .i64 x.b) ∧ ((((w.alloc (.cells #[.slice (some a) ns.length c, .slice A' ps.length c'] 33)).alloc (.cells #[.slice (some b) ms.length d, .slice B' qs.length d'] 33)).alloc (.cells #[.int .u8 x.k, .int .u64 x.s.a, .int .u64 x.s.b, .int .u64 x.s.c, .int .u64 x.s.d, .int .i64 x.a, .int .i64 x.b, .int .i64 x.mn, .int .i64 x.mx] 27)).alloc (.cells #[.int .u8 y.k, .int .u64 y.s.a, .int .u64 y.s.b, .int .u64 y.s.c, .int .u64 y.s.d, .int .i64 y.a, .int .i64 y.b, .int .i64 y.mn, .int .i64 y.mx] 27)).cell? ⟨w.heap.size + 1 + 1 + 1, 6, none⟩ = some (.int .i64 y.b)) := by
      refine Lib.hid ⟨?_, ?_, ?_, ?_, ?_, ?_⟩ <;> (first | (simp; done) | (go_simp; done) | (simp [World.cell?, World.alloc, Array.getElem?_push]; done))
    have HSZ := Lib.hid hsz
    clear hsz
    clear hNA hNB
    have hns := fun w => neq_set x.s y.s w
    have heg := fun op u v w => eqg_set op u v #[.int .u64 x.s.a, .int .u64 x.s.b, .int .u64 x.s.c, .int .u64 x.s.d] #[.int .u64 y.s.a, .int .u64 y.s.b, .int .u64 y.s.c, .int .u64 y.s.d] w
    by_cases hk1 : x.k = y.k
    · have kf : ((x.k : Int) != y.k) = false := by rw [hk1]; simp
      by_cases hs1 : x.s = y.s
      · rw [decide_eq_true hs1] at hns
        by_cases hm1 : x.mn = y.mn
        · have mf : (x.mn != y.mn) = false := by rw [hm1]; simp
          by_cases hm2 : x.mx = y.mx
          · have xf : (x.mx != y.mx) = false := by rw [hm2]; simp
            rw [if_neg (by rintro (h | h | h | h) <;> contradiction)]
            clear hs1 hm1 hm2
            by_cases h34 : x.k = 3 ∨ x.k = 4
            · rw [if_pos h34]
              have e : Tr.below x = [x.a, x.b] := by unfold Tr.below; rw [if_pos h34]
              have e' : Tr.below y = [y.a, y.b] := by unfold Tr.below; rw [if_pos (by omega)]
              have a1 := cx x.a (by simp [e])
              have a2 := cx x.b (by simp [e])
              have b1 := cy y.a (by simp [e'])
              have b2 := cy y.b (by simp [e'])
              obtain ⟨i1, hi1⟩ := Int.eq_ofNat_of_zero_le a1.1
              obtain ⟨i2, hi2⟩ := Int.eq_ofNat_of_zero_le a2.1
              obtain ⟨k1, hk1'⟩ := Int.eq_ofNat_of_zero_le b1.1
              obtain ⟨k2, hk2⟩ := Int.eq_ofNat_of_zero_le b2.1
              have I1 := ih i1 k1 (by omega) (by omega) (by omega)
              have I2 := ih i2 k2 (by omega) (by omega) (by omega)
              unfold AlikeSaid at I1 I2
              rw [← hi1, ← hk1'] at I1
              rw [← hi2, ← hk2] at I2
              rw [show x.a.toNat = i1 by omega, show x.b.toNat = i2 by omega, show y.a.toNat = k1 by omega, show y.b.toNat = k2 by omega]
              generalize Tr.likeF ns ms f i1 k1 = v1 at I1 ⊢
              generalize Tr.likeF ns ms f i2 k2 = v2 at I2 ⊢
              have I1 := Lib.hid I1
              have I2 := Lib.hid I2
              clear cx cy ih e e' a1 a2 b1 b2 hi1 hi2 hk1' hk2
              have t34 : ((x.k : Int) == 3) = true ∨ (((x.k : Int) == 3) = false ∧ ((x.k : Int) == 4) = true) := by
                rcases h34 with h | h
                · left; rw [h]; rfl
                · right; rw [h]; exact ⟨rfl, rfl⟩
              clear h34 hk1
              rcases t34 with t3 | ⟨t3, t4⟩
              all_goals
                go_enter Tryd.func19, Tryd.ntmps19
                go_wp2_with fail
                refine (I1.out _ (HTW.out _ hB4).1 (HTW.out _ hB4).2).mono ?_
                rintro e w1 ⟨rfl, B1⟩
                have HB := bthen hB4 B1
                have z0 : w1.cell? ⟨w.heap.size, 0, none⟩ = some (.slice (some a) ns.length c) := (B1.cell (p := ⟨w.heap.size, 0, none⟩) (by have := HSZ.out; show w.heap.size < _; omega)).trans HZ.out.1
                have z1 : w1.cell? ⟨w.heap.size, 1, none⟩ = some (.slice A' ps.length c') := (B1.cell (p := ⟨w.heap.size, 1, none⟩) (by have := HSZ.out; show w.heap.size < _; omega)).trans HZ.out.2.1
                have z2 : w1.cell? ⟨w.heap.size + 1, 0, none⟩ = some (.slice (some b) ms.length d) := (B1.cell (p := ⟨w.heap.size + 1, 0, none⟩) (by have := HSZ.out; show w.heap.size + 1 < _; omega)).trans HZ.out.2.2.1
                have z3 : w1.cell? ⟨w.heap.size + 1, 1, none⟩ = some (.slice B' qs.length d') := (B1.cell (p := ⟨w.heap.size + 1, 1, none⟩) (by have := HSZ.out; show w.heap.size + 1 < _; omega)).trans HZ.out.2.2.2.1
                have z4 : w1.cell? ⟨w.heap.size + 1 + 1, 6, none⟩ = some (.int .i64 x.b) := (B1.cell (p := ⟨w.heap.size + 1 + 1, 6, none⟩) (by have := HSZ.out; show w.heap.size + 1 + 1 < _; omega)).trans HZ.out.2.2.2.2.1
                have z5 : w1.cell? ⟨w.heap.size + 1 + 1 + 1, 6, none⟩ = some (.int .i64 y.b) := (B1.cell (p := ⟨w.heap.size + 1 + 1 + 1, 6, none⟩) (by have := HSZ.out; show w.heap.size + 1 + 1 + 1 < _; omega)).trans HZ.out.2.2.2.2.2
                clear c0 c1 c2 c3 c4 c5 c6 c7 c8 d0 d1 d2 d3 d4 d5 d6 d7 d8 B1
                cases v1
                · go_wp2_with fail
                  go_ret
                  exact ⟨rfl, HB⟩
                · go_wp2_with fail
                  refine (I2.out _ (HTW.out _ HB).1 (HTW.out _ HB).2).mono ?_
                  rintro e w2 ⟨rfl, B2⟩
                  replace HB := bthen HB B2
                  clear z0 z1 z2 z3 z4 z5
                  go_wp2_with fail
                  go_ret
                  exact ⟨by simp, HB⟩
            · rw [if_neg h34]
              by_cases h5 : x.k = 5
              · rw [if_pos h5]
                have e : Tr.below x = [x.a] := by unfold Tr.below; simp [h5]
                have e' : Tr.below y = [y.a] := by unfold Tr.below; simp [show y.k = 5 by omega]
                have a1 := cx x.a (by simp [e])
                have b1 := cy y.a (by simp [e'])
                obtain ⟨i1, hi1⟩ := Int.eq_ofNat_of_zero_le a1.1
                obtain ⟨k1, hk1'⟩ := Int.eq_ofNat_of_zero_le b1.1
                have I1 := ih i1 k1 (by omega) (by omega) (by omega)
                unfold AlikeSaid at I1
                rw [← hi1, ← hk1'] at I1
                rw [show x.a.toNat = i1 by omega, show y.a.toNat = k1 by omega]
                generalize Tr.likeF ns ms f i1 k1 = v1 at I1 ⊢
                have I1 := Lib.hid I1
                have t3 : ((x.k : Int) == 3) = false := by rw [h5]; rfl
                have t4 : ((x.k : Int) == 4) = false := by rw [h5]; rfl
                have t5 : ((x.k : Int) == 5) = true := by rw [h5]; rfl
                clear cx cy ih e e' a1 b1 hi1 hk1' h34 h5 hk1
                go_enter Tryd.func19, Tryd.ntmps19
                go_wp2_with fail
                refine (I1.out _ (HTW.out _ hB4).1 (HTW.out _ hB4).2).mono ?_
                rintro e w1 ⟨rfl, B1⟩
                have HB := bthen hB4 B1
                clear c0 c1 c2 c3 c4 c5 c6 c7 c8 d0 d1 d2 d3 d4 d5 d6 d7 d8 B1
                go_wp2_with fail
                go_ret
                exact ⟨rfl, HB⟩
              · rw [if_neg h5]
                have t3 : ((x.k : Int) == 3) = false := beq_f (by omega)
                have t4 : ((x.k : Int) == 4) = false := beq_f (by omega)
                have t5 : ((x.k : Int) == 5) = false := beq_f (by omega)
                clear cx cy ih h34 h5 hk1
                go_enter Tryd.func19, Tryd.ntmps19
                go_wp2_with fail
                go_ret
                exact ⟨rfl, hB4⟩
          · rw [if_pos (.inr (.inr (.inr hm2)))]
            have xf : (x.mx != y.mx) = true := by simpa using hm2
            clear cx cy ih hk1 hs1 hm1 hm2
            go_enter Tryd.func19, Tryd.ntmps19
            go_wp2_with fail
            all_goals
              go_ret
              exact ⟨rfl, hB4⟩
        · rw [if_pos (.inr (.inr (.inl hm1)))]
          have xf : (x.mn != y.mn) = true := by simpa using hm1
          clear cx cy ih hk1 hs1 hm1
          go_enter Tryd.func19, Tryd.ntmps19
          go_wp2_with fail
          all_goals
            go_ret
            exact ⟨rfl, hB4⟩
      · rw [if_pos (.inr (.inl hs1))]
        rw [decide_eq_false hs1] at hns
        clear cx cy ih hk1 hs1
        go_enter Tryd.func19, Tryd.ntmps19
        go_wp2_with fail
        all_goals
          go_ret
          exact ⟨rfl, hB4⟩
    · rw [if_pos (.inl hk1)]
      have kf : ((x.k : Int) != y.k) = true := by simp; omega
      clear cx cy ih hk1
      go_enter Tryd.func19, Tryd.ntmps19
      go_wp2_with fail
      all_goals
        go_ret
        exact ⟨rfl, hB4⟩
end Go.Proofs.YtebkaajnnjfhjaaDoor
