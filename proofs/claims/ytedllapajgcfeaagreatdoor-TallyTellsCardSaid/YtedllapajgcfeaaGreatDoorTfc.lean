/-
  tally.Of as one tally, tally.Same of a tally and itself.
-/
import Derived.Test.YtedllapajgcfeaaGreatDoorTrp
namespace Go.Proofs.YtedllapajgcfeaaGreatDoor
set_option linter.unusedVariables false
set_option linter.unusedSimpArgs false
open Go.RowKit Go.Proofs.YtedllapajgcfeaaGreatDoorW.PrintWords

theorem of_tal (A : Option Addr) (c : Nat) (l : List Nat) (hl : l.length ≤ 1000) (h64 : Fin64 l) (w : World) (hA : ArgF w A l) (T : Ty) (hT : tal l = T) :
    Calls Tryz.prog 10 #[.slice A l.length c] w fun e w' => e = .returned (.agg #[.int .i64 T.many, .int .i64 T.odd, .float .f64 T.least, .float .f64 T.greatest, .float .f64 T.mean]) ∧ Below w.heap.size w w' := by
  refine (of_any A c l hl h64 w hA).mono ?_
  rintro e w1 ⟨M, rfl, hp, hs, hB⟩
  have hM := canS_uniq h64 hp (so_rle hs (hp.length_eq.trans (canonL_len l)))
  refine ⟨?_, hB⟩
  rw [hM, ← hT]
  rfl
theorem cp_self (x : Nat) : cp x x = 0 := (cp_zero x x).1.2 rfl
set_option maxRecDepth 100000 in
set_option maxHeartbeats 6400000 in
theorem same_eq (m o a b c : Nat) (ha : a < 18446744073709551616) (hb : b < 18446744073709551616) (hc : c < 18446744073709551616) (w : World) : Calls Tryz.prog 13 #[.agg #[.int .i64 m, .int .i64 o, .float .f64 a, .float .f64 b, .float .f64 c], .agg #[.int .i64 m, .int .i64 o, .float .f64 a, .float .f64 b, .float .f64 c]] w fun e w' => e = .returned (.bool true) ∧ Below w.heap.size w w' := by
  have HI : Hid (∀ z, Calls Tryz.prog 9 #[.float .f64 a, .float .f64 a] z fun e w' => e = .returned (.int .i64 0) ∧ Below z.heap.size z w') := Lib.hid fun z => by
    have := compare_any a a ha ha z
    rw [cp_self] at this
    exact this
  have HD : Hid (∀ z, Calls Tryz.prog 9 #[.float .f64 b, .float .f64 b] z fun e w' => e = .returned (.int .i64 0) ∧ Below z.heap.size z w') := Lib.hid fun z => by
    have := compare_any b b hb hb z
    rw [cp_self] at this
    exact this
  have HN : Hid (∀ z, Calls Tryz.prog 9 #[.float .f64 c, .float .f64 c] z fun e w' => e = .returned (.int .i64 0) ∧ Below z.heap.size z w') := Lib.hid fun z => by
    have := compare_any c c hc hc z
    rw [cp_self] at this
    exact this
  have t1 : ((m : Int) == (m : Int)) = true := by simp
  have t2 : ((o : Int) == (o : Int)) = true := by simp
  clear ha hb hc
  go_enter Tryz.func13, Tryz.ntmps13
  go_wp2_with fail
  obtain ⟨W0, hW0⟩ : ∃ W0, W0 = ((w.alloc (.cells #[.int .i64 m, .int .i64 o, .float .f64 a, .float .f64 b, .float .f64 c] 34)).alloc (.cells #[.int .i64 m, .int .i64 o, .float .f64 a, .float .f64 b, .float .f64 c] 34)) := ⟨_, rfl⟩
  have h2 : W0.heap[w.heap.size + 1]? = some (.cells #[.int .i64 m, .int .i64 o, .float .f64 a, .float .f64 b, .float .f64 c] 34) := by
    rw [hW0]
    have := blk_new (w.alloc (.cells #[.int .i64 m, .int .i64 o, .float .f64 a, .float .f64 b, .float .f64 c] 34)) (.cells #[.int .i64 m, .int .i64 o, .float .f64 a, .float .f64 b, .float .f64 c] 34)
    simpa using this
  have h1 : W0.heap[w.heap.size]? = some (.cells #[.int .i64 m, .int .i64 o, .float .f64 a, .float .f64 b, .float .f64 c] 34) := by rw [hW0]; exact blk_alloc (blk_new w _) _
  have hB0 : Below w.heap.size w W0 := by rw [hW0]; exact ((Below.refl w.heap.size w).alloc (Nat.le_refl _) _).alloc (by simp) _
  have HC : Hid (∀ z, Below W0.heap.size W0 z → z.cell? ⟨w.heap.size, 0, none⟩ = some (.int .i64 m) ∧ z.cell? ⟨w.heap.size, 1, none⟩ = some (.int .i64 o) ∧ z.cell? ⟨w.heap.size, 2, none⟩ = some (.float .f64 a) ∧ z.cell? ⟨w.heap.size, 3, none⟩ = some (.float .f64 b) ∧ z.cell? ⟨w.heap.size, 4, none⟩ = some (.float .f64 c) ∧
      z.cell? ⟨w.heap.size + 1, 0, none⟩ = some (.int .i64 m) ∧ z.cell? ⟨w.heap.size + 1, 1, none⟩ = some (.int .i64 o) ∧ z.cell? ⟨w.heap.size + 1, 2, none⟩ = some (.float .f64 a) ∧ z.cell? ⟨w.heap.size + 1, 3, none⟩ = some (.float .f64 b) ∧ z.cell? ⟨w.heap.size + 1, 4, none⟩ = some (.float .f64 c)) := Lib.hid fun z hz => by
    have k1 := blk_below h1 hz
    have k2 := blk_below h2 hz
    exact ⟨(blk_cell k1 0).trans rfl, (blk_cell k1 1).trans rfl, (blk_cell k1 2).trans rfl, (blk_cell k1 3).trans rfl, (blk_cell k1 4).trans rfl, (blk_cell k2 0).trans rfl, (blk_cell k2 1).trans rfl, (blk_cell k2 2).trans rfl, (blk_cell k2 3).trans rfl, (blk_cell k2 4).trans rfl⟩
  change Calls _ _ _ ((w.alloc (.cells #[.int .i64 m, .int .i64 o, .float .f64 a, .float .f64 b, .float .f64 c] 34)).alloc (.cells #[.int .i64 m, .int .i64 o, .float .f64 a, .float .f64 b, .float .f64 c] 34)) _
  rw [← hW0]
  clear hW0 h1 h2
  have HB := Lib.hid (Below.refl W0.heap.size W0)
  refine (HI.out _).mono ?_
  rintro e w1 ⟨rfl, B1⟩
  have HB1 := Lib.hid (bthen HB.out B1)
  have K1 := HC.out _ HB1.out
  clear B1
  go_wp2_with fail
  refine (HD.out _).mono ?_
  rintro e w2 ⟨rfl, B2⟩
  have HB2 := Lib.hid (bthen HB1.out B2)
  clear K1 B2
  have K1 := HC.out _ HB2.out
  go_wp2_with fail
  refine (HN.out _).mono ?_
  rintro e w3 ⟨rfl, B3⟩
  have HB3 := Lib.hid (bthen HB2.out B3)
  clear K1 B3
  go_wp2_with fail
  go_ret
  exact ⟨rfl, bthen hB0 HB3.out⟩
theorem arg_row {T : List Value} {w : World} {g : Nat} {M : List Nat} (h : RowF T w g M) : ArgF w (some ⟨g, 0, none⟩) M := fun _ => ⟨_, rfl, fun z hz k hk => by rw [add_zero_at]; exact (h.below hz).cell k hk⟩
theorem arg_own {w : World} {base n : Nat} {v : Value} {M : List Nat} (h : w.ownsRow base 22 1 v n (fl M)) : ∃ A c, v = .slice A n c ∧ ArgF w A M ∧ M.length = n := by
  obtain ⟨A, c, rfl, hR⟩ := own_reads_of (enc := Value.float .f64) (d := 0) h
  refine ⟨A, c, rfl, fun hp => ?_, hR.1⟩
  obtain ⟨ad, e, hc⟩ := hR.2.2 (by rw [← hR.1]; exact hp)
  exact ⟨ad, e, fun z hz k hk => pw_cell_below hz (hc k (by rw [← hR.1]; exact hk))⟩
end Go.Proofs.YtedllapajgcfeaaGreatDoor
