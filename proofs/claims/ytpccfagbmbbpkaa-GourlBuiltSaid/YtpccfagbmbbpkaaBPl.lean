/-
  shibbolethlaw20.plain: letters and digits.
-/
import Derived.Test.YtpccfagbmbbpkaaOnly
import Derived.Outline
namespace Go.Proofs.Ytpccfagbmbbpkaa
open Go.RowKit Go.Proofs.YtpccfagbmbbpkaaW.PrintWords
set_option maxHeartbeats 800000 in
theorem lplain_any (w : World) : Calls Try.prog 17 #[] w fun e w' => e = .returned (.agg #[.int .u64 Gu.PL.a, .int .u64 Gu.PL.b, .int .u64 Gu.PL.c, .int .u64 Gu.PL.d]) ∧ Below w.heap.size w w' := by
  go_enter Try.func17, Try.ntmps17
  go_wp2_with fail
  refine (range_any 48 57 (by omega) (by omega) _).mono ?_
  rintro e w1 ⟨rfl, B1⟩
  go_wp2_with fail
  refine (range_any 97 122 (by omega) (by omega) _).mono ?_
  rintro e w2 ⟨rfl, B2⟩
  go_wp2_with fail
  refine (range_any 65 90 (by omega) (by omega) _).mono ?_
  rintro e w3 ⟨rfl, B3⟩
  go_wp2_with fail
  refine (or_any _ _ (W4.ok_range _ _) (W4.ok_range _ _) _).mono ?_
  rintro e w4 ⟨rfl, B4⟩
  go_wp2_with fail
  refine (or_any _ _ (W4.ok_range _ _) (W4.ok_or (W4.ok_range _ _) (W4.ok_range _ _)) _).mono ?_
  rintro e w5 ⟨rfl, B5⟩
  have K := blk_below (blk_below (blk_below (blk_below (blk_below (blk_new w _) B1) B2) B3) B4) B5
  have HB : Below w.heap.size w w5 := ((Below.refl _ _).alloc (Nat.le_refl _) _).trans ((bthen (bthen (bthen (bthen B1 B2) B3) B4) B5).mono (by simp))
  clear B1 B2 B3 B4 B5
  have c0 := blk_cell K 0
  have c1 := blk_cell K 1
  have c2 := blk_cell K 2
  have c3 := blk_cell K 3
  have f0 := blk_frozen K 0
  have f1 := blk_frozen K 1
  have f2 := blk_frozen K 2
  have f3 := blk_frozen K 3
  simp at c0 c1 c2 c3
  clear K
  go_wp2_with fail
  exact bodyPost_ret (v := .agg #[.int .u64 Gu.PL.a, .int .u64 Gu.PL.b, .int .u64 Gu.PL.c, .int .u64 Gu.PL.d]) (by simp [results, Try.results17, go_sem, Gu.PL, c0, c1, c2, c3]) rfl ⟨rfl, by (repeat (first | exact Below.refl _ _ | assumption | refine Below.drew ?_ | refine Below.alloc ?_ (by first | exact Nat.le_refl _ | (simp; done) | (simp; omega) | omega) _ | refine Below.setCell ?_ (by first | exact Nat.le_refl _ | (simp; done) | (simp; omega) | omega) _))⟩

end Go.Proofs.Ytpccfagbmbbpkaa
