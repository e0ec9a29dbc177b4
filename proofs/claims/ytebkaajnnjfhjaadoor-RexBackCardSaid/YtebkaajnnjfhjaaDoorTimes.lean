/-
  tree.times: walked.
-/
import Derived.Test.YtebkaajnnjfhjaaDoorSetw
import Derived.Deep.RegionHeld3
import Derived.Deep.DrawnRows
import Derived.Lib.AppendIntMem
import Derived.Lib.ItoaNum
namespace Go.Proofs.YtebkaajnnjfhjaaDoor
set_option linter.unusedVariables false
set_option linter.unusedSimpArgs false
open Go.RowKit Go.Proofs.YtebkaajnnjfhjaaDoorW.PrintWords
open Tr (Nd)

theorem itoa_dgt : ∀ n : Fin 10, Lib.itoa (n.val : Int) = [Tr.dgt (n.val : Int)] := by decide +kernel
theorem itoa_any (n : Int) (h0 : -1 ≤ n) (h1 : n ≤ 9) (w : World) (hL : Laid w) : Calls Tryd.prog 61 #[.int .i64 n] w fun e w' => e = .returned (.string ⟨(Lib.itoa n).toArray⟩) ∧ Below w.heap.size w w' := by
  refine (Tryd.strconv_Itoa n (by omega) (by omega) w hL.pow).mono ?_
  rintro e w1 ⟨rfl, k, os, rfl⟩
  exact ⟨rfl, Lib.below_grow _ w (Nat.le_refl _) k os⟩
/-- Since a world, and the tables stand. -/
def HIn (b x : World) : Prop := Below b.heap.size b x ∧ Laid x
theorem HIn.drew {b x : World} (h : HIn b x) : HIn b x.drew := ⟨Below.drew h.1, h.2.below (Below.drew (Below.refl _ _))⟩
theorem HIn.call {b x y : World} (h : HIn b x) (c : Below x.heap.size x y) : HIn b y := ⟨h.1.trans (c.mono h.1.size), h.2.below c⟩
theorem HIn.cell {b x : World} (h : HIn b x) {p : Addr} {v : Value} (hb : p.block < b.heap.size) (hc : b.cell? p = some v) : x.cell? p = some v := (h.1.cell hb).trans hc
set_option maxRecDepth 100000 in
set_option maxHeartbeats 3200000 in
theorem times_any (n : Nd) (h : (n.mx = -1 ∧ (n.mn = 0 ∨ n.mn = 1)) ∨ (0 ≤ n.mn ∧ n.mn ≤ n.mx ∧ n.mx ≤ 9)) (w : World) (hL : Laid w) : Calls Tryd.prog 46 #[.agg #[.int .u8 n.k, .int .u64 n.s.a, .int .u64 n.s.b, .int .u64 n.s.c, .int .u64 n.s.d, .int .i64 n.a, .int .i64 n.b, .int .i64 n.mn, .int .i64 n.mx]] w fun e w' => e = .returned (.string ⟨(Tr.ptm n.mn n.mx).toArray⟩) ∧ Below w.heap.size w w' := by
  have hH : HIn (w.alloc (.cells #[.int .u8 n.k, .int .u64 n.s.a, .int .u64 n.s.b, .int .u64 n.s.c, .int .u64 n.s.d, .int .i64 n.a, .int .i64 n.b, .int .i64 n.mn, .int .i64 n.mx] 27)) (w.alloc (.cells #[.int .u8 n.k, .int .u64 n.s.a, .int .u64 n.s.b, .int .u64 n.s.c, .int .u64 n.s.d, .int .i64 n.a, .int .i64 n.b, .int .i64 n.mn, .int .i64 n.mx] 27)) := ⟨Below.refl _ _, hL.below (by (repeat (first | exact Below.refl _ _ | assumption | refine Below.drew ?_ | refine Below.alloc ?_ (by first | exact Nat.le_refl _ | (simp; done) | (simp; omega) | omega) _ | refine Below.setCell ?_ (by first | exact Nat.le_refl _ | (simp; done) | (simp; omega) | omega) _)))⟩
  have hc7 : (w.alloc (.cells #[.int .u8 n.k, .int .u64 n.s.a, .int .u64 n.s.b, .int .u64 n.s.c, .int .u64 n.s.d, .int .i64 n.a, .int .i64 n.b, .int .i64 n.mn, .int .i64 n.mx] 27)).cell? ⟨w.heap.size, 7, none⟩ = some (.int .i64 n.mn) := (blk_cell (blk_new w _) 7).trans rfl
  have hc8 : (w.alloc (.cells #[.int .u8 n.k, .int .u64 n.s.a, .int .u64 n.s.b, .int .u64 n.s.c, .int .u64 n.s.d, .int .i64 n.a, .int .i64 n.b, .int .i64 n.mn, .int .i64 n.mx] 27)).cell? ⟨w.heap.size, 8, none⟩ = some (.int .i64 n.mx) := (blk_cell (blk_new w _) 8).trans rfl
  have b1 : -1 ≤ n.mn := by omega
  have b2 : n.mn ≤ 9 := by omega
  have b3 : -1 ≤ n.mx := by omega
  have b4 : n.mx ≤ 9 := by omega
  have HH := Lib.hid h
  clear h
  have hbs : w.heap.size < (w.alloc (.cells #[.int .u8 n.k, .int .u64 n.s.a, .int .u64 n.s.b, .int .u64 n.s.c, .int .u64 n.s.d, .int .i64 n.a, .int .i64 n.b, .int .i64 n.mn, .int .i64 n.mx] 27)).heap.size := by simp
  have HB0 : Below w.heap.size w (w.alloc (.cells #[.int .u8 n.k, .int .u64 n.s.a, .int .u64 n.s.b, .int .u64 n.s.c, .int .u64 n.s.d, .int .i64 n.a, .int .i64 n.b, .int .i64 n.mn, .int .i64 n.mx] 27)) := by (repeat (first | exact Below.refl _ _ | assumption | refine Below.drew ?_ | refine Below.alloc ?_ (by first | exact Nat.le_refl _ | (simp; done) | (simp; omega) | omega) _ | refine Below.setCell ?_ (by first | exact Nat.le_refl _ | (simp; done) | (simp; omega) | omega) _))
  have HC7 := Lib.hid (fun x (hx : HIn (w.alloc (.cells #[.int .u8 n.k, .int .u64 n.s.a, .int .u64 n.s.b, .int .u64 n.s.c, .int .u64 n.s.d, .int .i64 n.a, .int .i64 n.b, .int .i64 n.mn, .int .i64 n.mx] 27)) x) => hx.cell (p := ⟨w.heap.size, 7, none⟩) hbs hc7)
  have HC8 := Lib.hid (fun x (hx : HIn (w.alloc (.cells #[.int .u8 n.k, .int .u64 n.s.a, .int .u64 n.s.b, .int .u64 n.s.c, .int .u64 n.s.d, .int .i64 n.a, .int .i64 n.b, .int .i64 n.mn, .int .i64 n.mx] 27)) x) => hx.cell (p := ⟨w.heap.size, 8, none⟩) hbs hc8)
  clear hc7 hc8
  go_enter Tryd.func46, Tryd.ntmps46
  go_wp2_with fail
  generalize w.alloc (.cells #[.int .u8 n.k, .int .u64 n.s.a, .int .u64 n.s.b, .int .u64 n.s.c, .int .u64 n.s.d, .int .i64 n.a, .int .i64 n.b, .int .i64 n.mn, .int .i64 n.mx] 27) = W0 at hH HC7 HC8 hbs HB0 ⊢
  have hc7 := HC7.out _ hH
  have hc8 := HC8.out _ hH
  go_region_held3 (fun x => HIn W0 x ∧ x.cell? ⟨w.heap.size, 7, none⟩ = some (.int .i64 n.mn) ∧ x.cell? ⟨w.heap.size, 8, none⟩ = some (.int .i64 n.mx)) ((first | exact ⟨hH.drew, HC7.out _ hH.drew, HC8.out _ hH.drew⟩ | assumption | (have hq := HIn.call (‹HIn W0 _ ∧ _›).1 ‹_›; exact ⟨hq, HC7.out _ hq, HC8.out _ hq⟩))) ((go_at_call 61; refine (itoa_any _ (by omega) (by omega) _ (‹HIn W0 _ ∧ _›).1.2).mono ?_; rintro e w3 ⟨rfl, B3⟩))
  have hS := ‹HIn W0 _ ∧ _›
  obtain ⟨hH3, k7, k8⟩ := hS
  have HBZ := HB0.trans (hH3.1.mono (by omega))
  clear hH hc7 hc8 HC7 HC8 hH3
  rcases HH.out with ⟨hx, hm⟩ | ⟨h0, h1, h2⟩
  · have x1 := beq_t hx
    rcases hm with hm | hm
    · have HP : Hid (Tr.ptm n.mn n.mx = [42]) := Lib.hid (by unfold Tr.ptm; rw [if_pos hx, if_pos hm])
      have x2 := beq_t hm
      clear hx hm HH
      go_wp2_with fail
      go_ret
      exact ⟨by rw [HP.out]; rfl, HBZ⟩
    · have HP : Hid (Tr.ptm n.mn n.mx = [43]) := Lib.hid (by unfold Tr.ptm; rw [if_pos hx, if_neg (by omega)])
      have x2 : (n.mn == 0) = false := beq_f (by omega)
      clear hx hm HH
      go_wp2_with fail
      go_ret
      exact ⟨by rw [HP.out]; rfl, HBZ⟩
  · have x1 : (n.mx == -1) = false := beq_f (by omega)
    obtain ⟨a, ha⟩ := Int.eq_ofNat_of_zero_le h0
    obtain ⟨b, hb⟩ := Int.eq_ofNat_of_zero_le (show 0 ≤ n.mx by omega)
    have ea := itoa_dgt ⟨a, by omega⟩
    have eb := itoa_dgt ⟨b, by omega⟩
    simp only at ea eb
    rw [← ha] at ea
    rw [← hb] at eb
    have EA := Lib.hid ea
    have EB := Lib.hid eb
    clear ea eb ha hb
    generalize Lib.itoa n.mn = sa at EA ⊢
    generalize Lib.itoa n.mx = sb at EB ⊢
    have la : sa.length = 1 := by rw [EA.out]; rfl
    have lb : sb.length = 1 := by rw [EB.out]; rfl
    have LA := Lib.hid la
    have LB := Lib.hid lb
    have z1 : ¬ 9223372036854775807 < 1 + sa.length := by omega
    have z2 : ¬ 9223372036854775807 < sa.length + 1 := by omega
    have z3 : ¬ 9223372036854775807 < sa.length + 1 + 1 := by omega
    have z4 : ¬ 9223372036854775807 < sa.length + 1 + 1 + sb.length := by omega
    have z5 : ¬ 9223372036854775807 < sa.length + (1 + sb.length) + 1 := by omega
    have z6 : ¬ 9223372036854775807 < sa.length + (sb.length + 1) + 1 := by omega
    have z7 : ¬ 9223372036854775807 < sa.length + (sb.length + 1 + 1) := by omega
    have z8 : ¬ 9223372036854775807 < sa.length + (sb.length + 1) + 1 + 1 := by omega
    clear la lb
    by_cases h3 : n.mn = 0 ∧ n.mx = 1
    · have HP : Hid (Tr.ptm n.mn n.mx = [63]) := Lib.hid (by unfold Tr.ptm; rw [if_neg (by omega), if_pos h3])
      have x2 := beq_t h3.1
      have x3 := beq_t h3.2
      clear h3 HH h0 h1 h2
      go_wp2_with fail
      go_ret
      exact ⟨by rw [HP.out]; rfl, HBZ⟩
    · by_cases h4 : n.mn = n.mx
      · have HP : Hid (Tr.ptm n.mn n.mx = [123, Tr.dgt n.mn, 125]) := Lib.hid (by unfold Tr.ptm; rw [if_neg (by omega), if_neg h3, if_pos h4])
        have x4 := beq_t h4
        by_cases h5 : n.mn = 0
        · have x2 := beq_t h5
          have x3 : (n.mx == 1) = false := beq_f (by omega)
          clear h5 h4 h3 HH h0 h1 h2
          go_wp2_with fail
          go_ret
          exact ⟨ret_str (by rw [HP.out, EA.out]; rfl), HBZ⟩
        · have x2 := beq_f h5
          clear h5 h4 h3 HH h0 h1 h2
          go_wp2_with fail
          go_ret
          exact ⟨ret_str (by rw [HP.out, EA.out]; rfl), HBZ⟩
      · have HP : Hid (Tr.ptm n.mn n.mx = [123, Tr.dgt n.mn, 44, Tr.dgt n.mx, 125]) := Lib.hid (by unfold Tr.ptm; rw [if_neg (by omega), if_neg h3, if_neg h4])
        have x4 := beq_f h4
        by_cases h5 : n.mn = 0
        · have x2 := beq_t h5
          have x3 : (n.mx == 1) = false := beq_f (by omega)
          clear h5 h4 h3 HH h0 h1 h2
          go_wp2_with fail
          go_ret
          exact ⟨ret_str (by rw [HP.out, EA.out, EB.out]; rfl), HBZ⟩
        · have x2 := beq_f h5
          clear h5 h4 h3 HH h0 h1 h2
          go_wp2_with fail
          go_ret
          exact ⟨ret_str (by rw [HP.out, EA.out, EB.out]; rfl), HBZ⟩
end Go.Proofs.YtebkaajnnjfhjaaDoor
