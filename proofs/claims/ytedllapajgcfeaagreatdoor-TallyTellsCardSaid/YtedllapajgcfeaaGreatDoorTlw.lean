/-
  TallyTells: walked.
-/
import Derived.Test.YtedllapajgcfeaaGreatDoorRof
import Derived.Test.YtedllapajgcfeaaGreatDoorAwk5
namespace Go.Proofs.YtedllapajgcfeaaGreatDoor
set_option linter.unusedVariables false
set_option linter.unusedSimpArgs false
open Go.RowKit Go.Proofs.YtedllapajgcfeaaGreatDoorW.PrintWords

set_option maxRecDepth 100000 in
set_option maxHeartbeats 12800000 in
theorem tells_any (A : Option Addr) (c : Nat) (l : List Nat) (h64 : Fin64 l) (w : World) (hA : ArgF w A l) (hT : Tb w) :
    Calls Tryz.prog 4 #[.slice A l.length c] w fun e w' => e = .returned (.bool true) ∧ Below w.heap.size w w' := by
  have HT := Lib.hid hT
  have HA := Lib.hid hA
  clear hT hA
  by_cases hl : 200 < l.length
  · have t1 : decide ((200 : Int) < (l.length : Int)) = true := decide_eq_true (by omega)
    clear hl
    go_enter Tryz.func4, Tryz.ntmps4
    go_wp2_with fail
    refine (awake5_any _ HT.out).mono ?_
    rintro e w1 ⟨rfl, B1⟩
    have HB := Lib.hid B1
    clear B1
    go_wp2_with fail
    go_ret
    exact ⟨rfl, HB.out⟩
  · have t1 : decide ((200 : Int) < (l.length : Int)) = false := decide_eq_false (by omega)
    have hl2 : l.length ≤ 200 := by omega
    have hfin := ty_fin h64 (by omega : l.length ≤ 1000)
    have HROF := Lib.hid (fun z (hz : ArgF z A l) => rof_any A c l (by omega) h64 z hz)
    have HOF := Lib.hid (fun z (hz : ArgF z A l) => of_tal A c l (by omega) h64 z hz _ rfl)
    unfold RofOut at HROF
    generalize tal l = T0 at hfin HROF HOF
    rcases T0 with ⟨m, o, a, b, d⟩
    have HSM := Lib.hid (same_eq m o a b d hfin.1 hfin.2.1 hfin.2.2)
    have HA1 := Lib.hid (alike_any a a hfin.1 hfin.1)
    have HA2 := Lib.hid (alike_any b b hfin.2.1 hfin.2.1)
    have HA3 := Lib.hid (alike_any d d hfin.2.2 hfin.2.2)
    rw [decide_eq_true rfl] at HA1 HA2 HA3
    have tm : ((m : Int) == (m : Int)) = true := by simp
    have t2o : ((o : Int) == (o : Int)) = true := by simp
    clear hl hfin
    go_enter Tryz.func4, Tryz.ntmps4
    go_wp2_with fail
    refine (HOF.out _ HA.out).mono ?_
    rintro e w1 ⟨rfl, B1⟩
    have HB1 := Lib.hid B1
    clear B1
    go_upto_region 4 with (fail)
    obtain ⟨W1, hW1⟩ : ∃ W1, W1 = w1.alloc (.cells #[.int .i64 m, .int .i64 o, .float .f64 a, .float .f64 b, .float .f64 d] 34) := ⟨_, rfl⟩
    change Code.wp _ _ _ _ (w1.alloc (.cells #[.int .i64 m, .int .i64 o, .float .f64 a, .float .f64 b, .float .f64 d] 34))
    have hg1 : W1.heap[w1.heap.size]? = some (.cells #[.int .i64 m, .int .i64 o, .float .f64 a, .float .f64 b, .float .f64 d] 34) := by rw [hW1]; exact blk_new w1 _
    have hBW1 : Below w.heap.size w W1 := by rw [hW1]; exact HB1.out.alloc HB1.out.size _
    rw [← hW1]
    have HG1 := Lib.hid hg1
    have HBW1 := Lib.hid hBW1
    clear hW1 hg1 hBW1 HB1
    generalize w1.heap.size = g1 at *
    go_wp2_with fail
    refine (HROF.out _ (HA.out.below HBW1.out)).mono ?_
    rintro e w2 ⟨rfl, B2⟩
    have HB2 := Lib.hid B2
    clear B2
    go_upto_region 6 with (fail)
    obtain ⟨W3, hW3⟩ : ∃ W3, W3 = (w2.alloc (.cells #[.int .i64 m, .int .i64 o, .float .f64 a, .float .f64 b, .float .f64 d] 36)).alloc (.cells #[.int .i64 m, .int .i64 o, .float .f64 a, .float .f64 b, .float .f64 d] 34) := ⟨_, rfl⟩
    change Code.wp _ _ _ _ ((w2.alloc (.cells #[.int .i64 m, .int .i64 o, .float .f64 a, .float .f64 b, .float .f64 d] 36)).alloc (.cells #[.int .i64 m, .int .i64 o, .float .f64 a, .float .f64 b, .float .f64 d] 34))
    have hB3 : Below W1.heap.size W1 W3 := by rw [hW3]; exact (HB2.out.alloc HB2.out.size _).alloc (by have := HB2.out.size; simp; omega) _
    have hg2 : W3.heap[w2.heap.size]? = some (.cells #[.int .i64 m, .int .i64 o, .float .f64 a, .float .f64 b, .float .f64 d] 36) := by rw [hW3]; exact blk_alloc (blk_new w2 _) _
    have hg3 : W3.heap[w2.heap.size + 1]? = some (.cells #[.int .i64 m, .int .i64 o, .float .f64 a, .float .f64 b, .float .f64 d] 34) := by
      rw [hW3]
      have := blk_new (w2.alloc (.cells #[.int .i64 m, .int .i64 o, .float .f64 a, .float .f64 b, .float .f64 d] 36)) (.cells #[.int .i64 m, .int .i64 o, .float .f64 a, .float .f64 b, .float .f64 d] 34)
      simpa using this
    have hg1 := blk_below HG1.out hB3
    rw [← hW3]
    clear hW3
    have HB3 := Lib.hid (bthen HBW1.out hB3)
    have HC : Hid (∀ z, Below W3.heap.size W3 z → (z.cell? ⟨g1, 0, none⟩ = some (.int .i64 m) ∧ z.cell? ⟨g1, 1, none⟩ = some (.int .i64 o) ∧ z.cell? ⟨g1, 2, none⟩ = some (.float .f64 a) ∧ z.cell? ⟨g1, 3, none⟩ = some (.float .f64 b) ∧ z.cell? ⟨g1, 4, none⟩ = some (.float .f64 d)) ∧
        (z.cell? ⟨w2.heap.size, 0, none⟩ = some (.int .i64 m) ∧ z.cell? ⟨w2.heap.size, 1, none⟩ = some (.int .i64 o) ∧ z.cell? ⟨w2.heap.size, 2, none⟩ = some (.float .f64 a) ∧ z.cell? ⟨w2.heap.size, 3, none⟩ = some (.float .f64 b) ∧ z.cell? ⟨w2.heap.size, 4, none⟩ = some (.float .f64 d)) ∧
        (z.cell? ⟨w2.heap.size + 1, 0, none⟩ = some (.int .i64 m) ∧ z.cell? ⟨w2.heap.size + 1, 1, none⟩ = some (.int .i64 o) ∧ z.cell? ⟨w2.heap.size + 1, 2, none⟩ = some (.float .f64 a) ∧ z.cell? ⟨w2.heap.size + 1, 3, none⟩ = some (.float .f64 b) ∧ z.cell? ⟨w2.heap.size + 1, 4, none⟩ = some (.float .f64 d))) := Lib.hid fun z hz => by
      have k1 := blk_below hg1 hz
      have k2 := blk_below hg2 hz
      have k3 := blk_below hg3 hz
      exact ⟨⟨(blk_cell k1 0).trans rfl, (blk_cell k1 1).trans rfl, (blk_cell k1 2).trans rfl, (blk_cell k1 3).trans rfl, (blk_cell k1 4).trans rfl⟩, ⟨(blk_cell k2 0).trans rfl, (blk_cell k2 1).trans rfl, (blk_cell k2 2).trans rfl, (blk_cell k2 3).trans rfl, (blk_cell k2 4).trans rfl⟩, ⟨(blk_cell k3 0).trans rfl, (blk_cell k3 1).trans rfl, (blk_cell k3 2).trans rfl, (blk_cell k3 3).trans rfl, (blk_cell k3 4).trans rfl⟩⟩
    clear hg1 hg2 hg3 hB3 HG1 HB2
    generalize w2.heap.size = g2 at *
    have hq := HC.out W3 (Below.refl _ _)
    obtain ⟨⟨p0, p1, p2, p3, p4⟩, ⟨q0, q1, q2, q3, q4⟩, ⟨r0, r1, r2, r3, r4⟩⟩ := hq
    go_wp2_with fail
    refine (HA1.out _).mono ?_
    rintro e w3 ⟨rfl, rfl⟩
    go_wp2_with fail
    refine (HA2.out _).mono ?_
    rintro e w3 ⟨rfl, rfl⟩
    go_wp2_with fail
    refine (HA3.out _).mono ?_
    rintro e w3 ⟨rfl, rfl⟩
    go_wp2_with fail
    refine (HSM.out _).mono ?_
    rintro e w4 ⟨rfl, B4⟩
    have HB4 := Lib.hid (bthen HB3.out B4)
    clear B4 p0 p1 p2 p3 p4 q0 q1 q2 q3 q4 r0 r1 r2 r3 r4
    go_wp2_with fail
    refine (awake5_any _ (HT.out.below HB4.out)).mono ?_
    rintro e w5 ⟨rfl, B5⟩
    have HB5 := Lib.hid (bthen HB4.out B5)
    clear B5
    go_wp2_with fail
    go_ret
    exact ⟨rfl, HB5.out⟩
end Go.Proofs.YtedllapajgcfeaaGreatDoor
