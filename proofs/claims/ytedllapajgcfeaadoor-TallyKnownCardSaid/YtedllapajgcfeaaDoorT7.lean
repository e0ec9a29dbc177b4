/-
  internal/strconv.ftoa64 up to fmtEFG at the number 7: as at 0.1.
-/
import Derived.Test.YtedllapajgcfeaaDoorTFg
namespace Go.Proofs.YtedllapajgcfeaaDoor
open Go.RowKit Go.Sort Go.Lib Go.Proofs.YtedllapajgcfeaaDoorW.PrintWords

theorem mul_1Sv (w : World) : Calls Tryd.prog 96 #[.int .u64 16140901064495856640, .int .u64 10240000000000000000] w fun e w' => e = .returned (.tuple #[.int .u64 8959999999999999431, .int .u64 10437377940734869504]) ∧ w = w' :=
  (Tryd.bits_Mul64 16140901064495856640 10240000000000000000 (by decide) (by decide) w).mono (by rintro e w' ⟨rfl, rfl⟩; exact ⟨rfl, rfl⟩)
theorem mul_2Sv (w : World) : Calls Tryd.prog 96 #[.int .u64 16140901064495858688, .int .u64 10240000000000000000] w fun e w' => e = .returned (.tuple #[.int .u64 8960000000000000568, .int .u64 8009366132974682112]) ∧ w = w' :=
  (Tryd.bits_Mul64 16140901064495858688 10240000000000000000 (by decide) (by decide) w).mono (by rintro e w' ⟨rfl, rfl⟩; exact ⟨rfl, rfl⟩)
theorem uscale_1Sv (g : Nat) (w : World) (c0 : w.cell? ⟨g, 0, none⟩ = some (.int .u64 10240000000000000000)) (c2 : w.cell? ⟨g, 2, none⟩ = some (.int .i64 5)) : Calls Tryd.prog 79 #[.int .u64 16140901064495856640, .pointer (some ⟨g, 0, none⟩)] w fun e w' => e = .returned (.int .u64 279999999999999983) ∧ w = w' := by
  have b1 : bits .and .i64 5 63 = 5 := by decide +kernel
  have b4 : bits .or .u64 279999999999999982 1 = 279999999999999983 := by decide +kernel
  go_enter Tryd.func79, Tryd.ntmps79
  go_wp2_with fail
  refine (mul_1Sv _).mono ?_
  rintro e w1 ⟨rfl, rfl⟩
  go_wp2_with fail
  go_ret
  exact ⟨rfl, rfl⟩
theorem uscale_2Sv (g : Nat) (w : World) (c0 : w.cell? ⟨g, 0, none⟩ = some (.int .u64 10240000000000000000)) (c2 : w.cell? ⟨g, 2, none⟩ = some (.int .i64 5)) : Calls Tryd.prog 79 #[.int .u64 16140901064495858688, .pointer (some ⟨g, 0, none⟩)] w fun e w' => e = .returned (.int .u64 280000000000000017) ∧ w = w' := by
  have b1 : bits .and .i64 5 63 = 5 := by decide +kernel
  have b4 : bits .or .u64 280000000000000017 1 = 280000000000000017 := by decide +kernel
  go_enter Tryd.func79, Tryd.ntmps79
  go_wp2_with fail
  refine (mul_2Sv _).mono ?_
  rintro e w1 ⟨rfl, rfl⟩
  go_wp2_with fail
  go_ret
  exact ⟨rfl, rfl⟩
theorem nudge_1Sv (w : World) : Calls Tryd.prog 80 #[.int .u64 279999999999999983, .int .i64 0] w fun e w' => e = .returned (.int .u64 279999999999999983) ∧ w = w' := by
  go_enter Tryd.func80, Tryd.ntmps80
  go_wp2_with fail
  go_ret
  exact ⟨rfl, rfl⟩
theorem nudge_2Sv (w : World) : Calls Tryd.prog 80 #[.int .u64 280000000000000017, .int .i64 0] w fun e w' => e = .returned (.int .u64 280000000000000017) ∧ w = w' := by
  go_enter Tryd.func80, Tryd.ntmps80
  go_wp2_with fail
  go_ret
  exact ⟨rfl, rfl⟩
theorem ceil_1Sv (w : World) : Calls Tryd.prog 81 #[.int .u64 279999999999999983] w fun e w' => e = .returned (.int .u64 69999999999999996) ∧ w = w' := by
  go_enter Tryd.func81, Tryd.ntmps81
  go_wp2_with fail
  go_ret
  exact ⟨rfl, rfl⟩
theorem floor_1Sv (w : World) : Calls Tryd.prog 82 #[.int .u64 280000000000000017] w fun e w' => e = .returned (.int .u64 70000000000000004) ∧ w = w' := by
  go_enter Tryd.func82, Tryd.ntmps82
  go_wp2_with fail
  go_ret
  exact ⟨rfl, rfl⟩
theorem log10_1Sv (w : World) : Calls Tryd.prog 66 #[.int .i64 (-50)] w fun e w' => e = .returned (.int .i64 (-16)) ∧ w = w' := by
  go_enter Tryd.func66, Tryd.ntmps66
  go_wp2_with fail
  go_ret
  exact ⟨rfl, rfl⟩
theorem log2_1Sv (w : World) : Calls Tryd.prog 78 #[.int .i64 16] w fun e w' => e = .returned (.int .i64 53) ∧ w = w' := by
  go_enter Tryd.func78, Tryd.ntmps78
  go_wp2_with fail
  go_ret
  exact ⟨rfl, rfl⟩
theorem prescale_Sv (g : Nat) (w : World) (hK : w.heap[g]? = some (.cells #[.int .u64 0, .int .u64 0, .int .i64 0] 102 (0, 0))) (t0 : w.cell? ⟨3, 728, none⟩ = some (.int .u64 10240000000000000000)) (t1 : w.cell? ⟨3, 729, none⟩ = some (.int .u64 0)) (hg : g ≠ 3) : Calls Tryd.prog 77 #[.pointer (some ⟨g, 0, none⟩), .int .i64 (-61), .int .i64 16, .int .i64 53] w fun e w' => e = .returned (.tuple #[]) ∧ w' = ((w.setCell ⟨g, 0, none⟩ (.int .u64 10240000000000000000)).setCell ⟨g, 1, none⟩ (.int .u64 0)).setCell ⟨g, 2, none⟩ (.int .i64 5) := by
  have k0 : w.cell? ⟨g, 0, none⟩ = some (.int .u64 0) := (blk_cell hK 0).trans rfl
  have k1 : w.cell? ⟨g, 1, none⟩ = some (.int .u64 0) := (blk_cell hK 1).trans rfl
  have k2 : w.cell? ⟨g, 2, none⟩ = some (.int .i64 0) := (blk_cell hK 2).trans rfl
  have hg' : ¬ 3 = g := fun e => hg e.symm
  have f0 := blk_frozen hK 0
  have f1 := blk_frozen hK 1
  have f2 := blk_frozen hK 2
  clear hK
  go_enter Tryd.func77, Tryd.ntmps77
  go_wp2_with fail
  first
  | (go_end0; exact ⟨rfl, rfl⟩)
  | exact bodyPost_ret (results_none rfl _ _ _) rfl ⟨rfl, rfl⟩
def PowSv (w : World) : Prop := w.cell? ⟨3, 728, none⟩ = some (.int .u64 10240000000000000000) ∧ w.cell? ⟨3, 729, none⟩ = some (.int .u64 0) ∧ 3 < w.heap.size
theorem PowSv.belowG {w w' : World} {g : Nat} (h : PowSv w) (hb : Below g w w') (hg : 3 < g) (hs : w.heap.size ≤ w'.heap.size) : PowSv w' :=
  ⟨(hb.cell (p := ⟨3, 728, none⟩) hg).trans h.1, (hb.cell (p := ⟨3, 729, none⟩) hg).trans h.2.1, Nat.lt_of_lt_of_le h.2.2 hs⟩
theorem PowSv.below {w w' : World} (h : PowSv w) (hb : Below w.heap.size w w') : PowSv w' := h.belowG hb h.2.2 hb.size
def scwSv (w : World) : World := (((w.alloc scz).setCell ⟨w.heap.size, 0, none⟩ (.int .u64 10240000000000000000)).setCell ⟨w.heap.size, 1, none⟩ (.int .u64 0)).setCell ⟨w.heap.size, 2, none⟩ (.int .i64 5)
theorem scwSv_blk (w : World) : (scwSv w).heap[w.heap.size]? = some (.cells #[.int .u64 10240000000000000000, .int .u64 0, .int .i64 5] 102 (0, 0)) :=
  blk_put (blk_put (blk_put (w := w.alloc scz) (cs := #[.int .u64 0, .int .u64 0, .int .i64 0]) (blk_new w scz) 0 _ rfl) 1 _ rfl) 2 _ rfl
theorem scwSv_below (w : World) : Below w.heap.size w (scwSv w) := by
  unfold scwSv
  exact ((((Below.refl _ _).alloc (Nat.le_refl _) _).setCell (Nat.le_refl _) _).setCell (Nat.le_refl _) _).setCell (Nat.le_refl _) _
set_option maxHeartbeats 1600000 in
theorem short_Sv (w : World) (hp : PowSv w) : Calls Tryd.prog 71 #[.int .u64 16140901064495857664, .int .i64 (-61)] w fun e w' => e = .returned (.tuple #[.int .u64 7000000000000000, .int .i64 (-15)]) ∧ Below w.heap.size w w' := by
  have hg : w.heap.size ≠ 3 := by have := hp.2.2; omega
  have T0 : (w.alloc scz).cell? ⟨3, 728, none⟩ = some (.int .u64 10240000000000000000) := (((Below.refl w.heap.size w).alloc (Nat.le_refl _) scz).cell (p := ⟨3, 728, none⟩) hp.2.2).trans hp.1
  have T1 : (w.alloc scz).cell? ⟨3, 729, none⟩ = some (.int .u64 0) := (((Below.refl w.heap.size w).alloc (Nat.le_refl _) scz).cell (p := ⟨3, 729, none⟩) hp.2.2).trans hp.2.1
  have HP : Hid (Calls Tryd.prog 77 #[.pointer (some ⟨w.heap.size, 0, none⟩), .int .i64 (-61), .int .i64 16, .int .i64 53] (w.alloc scz) fun e w' => e = .returned (.tuple #[]) ∧ w' = scwSv w) := Lib.hid (prescale_Sv w.heap.size (w.alloc scz) (blk_new w scz) T0 T1 hg)
  have b1 : bits .and .i64 7881299347898368 1 = 0 := by decide +kernel
  have c0 := Lib.hid ((blk_cell (scwSv_blk w) 0).trans rfl : (scwSv w).cell? ⟨w.heap.size, 0, none⟩ = some (.int .u64 10240000000000000000))
  have c2 := Lib.hid ((blk_cell (scwSv_blk w) 2).trans rfl : (scwSv w).cell? ⟨w.heap.size, 2, none⟩ = some (.int .i64 5))
  clear T0 T1 hg hp
  go_enter Tryd.func71, Tryd.ntmps71
  go_wp2_with fail
  refine (log10_1Sv _).mono ?_
  rintro e w1 ⟨rfl, rfl⟩
  go_wp2_with fail
  refine (log2_1Sv _).mono ?_
  rintro e w1 ⟨rfl, rfl⟩
  go_wp2_with fail
  refine (HP.out).mono ?_
  rintro e w1 ⟨rfl, rfl⟩
  have hB := Lib.hid (scwSv_below w)
  generalize scwSv w = w1 at c0 c2 hB ⊢
  go_wp2_with fail
  refine (uscale_1Sv _ _ c0.out c2.out).mono ?_
  rintro e w2 ⟨rfl, rfl⟩
  go_wp2_with fail
  refine (nudge_1Sv _).mono ?_
  rintro e w2 ⟨rfl, rfl⟩
  go_wp2_with fail
  refine (ceil_1Sv _).mono ?_
  rintro e w2 ⟨rfl, rfl⟩
  go_wp2_with fail
  refine (uscale_2Sv _ _ c0.out c2.out).mono ?_
  rintro e w2 ⟨rfl, rfl⟩
  go_wp2_with fail
  refine (nudge_2Sv _).mono ?_
  rintro e w2 ⟨rfl, rfl⟩
  go_wp2_with fail
  refine (floor_1Sv _).mono ?_
  rintro e w2 ⟨rfl, rfl⟩
  go_wp2_with fail
  go_ret2
  exact ⟨rfl, hB.out⟩
theorem dg_0Sv : dg 7000000000000000 15 = 55 := by decide +kernel
theorem dg_1Sv : ∀ j : Fin 16, 1 ≤ j.val → dg 7000000000000000 (15 - j.val) = 48 := by decide +kernel
theorem fmt_Sv (g : Nat) (w : World) (hH : Holds (fun (b : UInt8) => Value.int .u8 (b.toNat : Int)) w g 0 dig0) : Calls Tryd.prog 84 #[.slice (some ⟨g, 0, none⟩) 16 32, .int .u64 7000000000000000] w fun e w' => e = .returned (.tuple #[]) ∧ w'.cell? ⟨g, 0, none⟩ = some (.int .u8 55) ∧ (∀ j, 1 ≤ j → j < 16 → w'.cell? ⟨g, j, none⟩ = some (.int .u8 48)) ∧ Below g w w' := by
  have := Tryd.internal_strconv_formatBase10 g 0 32 7000000000000000 dig0 w hH (by decide) (by decide) (by decide)
  refine Calls.mono this ?_
  rintro e w' ⟨rfl, n, v', dk, rfl, hF⟩
  have hs : dk.size = dig0.size := hF.size
  have hc := fun j (hj : j < 16) => cell?_putRow (fun (b : UInt8) => Value.int .u8 (b.toNat : Int)) w g 0 dig0 dk hH hs j (by rw [hs]; exact hj)
  refine ⟨rfl, ?_, ?_, below_putRow (q := n) (Below.refl g w) (Nat.le_refl g)⟩
  · refine (hc 0 (by omega)).trans ?_
    rw [hF.done 0 (Nat.le_refl _) (by decide)]
    show some (Value.int .u8 ((dg 7000000000000000 15).toNat : Int)) = _
    rw [dg_0Sv]; rfl
  · intro j h1 h2
    have := hc j h2
    rw [Nat.zero_add] at this
    refine Eq.trans this ?_
    rw [hF.done j (Nat.zero_le _) h2]
    show some (Value.int .u8 ((dg 7000000000000000 (15 - j)).toNat : Int)) = _
    rw [dg_1Sv ⟨j, h2⟩ h1]; rfl
set_option maxHeartbeats 1600000 in
theorem setD_Sv (g : Nat) (w : World) (hH : Holds (fun (b : UInt8) => Value.int .u8 (b.toNat : Int)) w g 0 dig0) : Calls Tryd.prog 64 #[.slice (some ⟨g, 0, none⟩) 32 32, .int .u64 7000000000000000, .int .i64 (-15), .int .i64 16] w fun e w' => e = .returned (.tuple #[.int .i64 1, .int .i64 1]) ∧ w'.cell? ⟨g, 0, none⟩ = some (.int .u8 55) ∧ Below g w w' := by
  have HF := Lib.hid (fmt_Sv g w hH)
  clear hH
  go_enter Tryd.func64, Tryd.ntmps64
  go_wp2_with fail
  refine (HF.out).mono ?_
  rintro e w1 ⟨rfl, C0, C1, B1⟩
  replace C1 := Lib.hid C1
  replace B1 := Lib.hid B1
  clear HF
  go_wp2_with fail
  go_loopw [3] (fun i wr => ∃ k : Nat, k < 16 ∧ i = .int .i64 (k + 1) ∧ wr = w1) (fun i _ => (RowKit.intOf i).toNat)
  case atStart => exact ⟨15, by omega, rfl, rfl⟩
  case round =>
    obtain ⟨k, hk, rfl, rfl⟩ := hrel
    have i1 : (0 : Int) ≤ (k : Int) := by omega
    have i2 : (k : Int) < 32 := by omega
    have i3 : (0 : Int) < (k : Int) + 1 := by omega
    have i4 : (k : Int) + 1 ≤ 16 := by omega
    by_cases h0 : k = 0
    · subst h0
      clear C1
      go_wp2_with fail
      go_ret2
      exact ⟨rfl, C0, B1.out⟩
    · have C := C1.out k (by omega) hk
      obtain ⟨m, rfl⟩ : ∃ m, k = m + 1 := ⟨k - 1, by omega⟩
      go_wp2_with fail
      go_roundw
      case rel => exact ⟨m, by omega, by go_num, trivial⟩
      case measure => simp [RowKit.intOf] <;> omega
theorem len_Sv (w : World) : Calls Tryd.prog 50 #[.int .u64 7881299347898368] w fun e w' => e = .returned (.int .i64 53) ∧ w = w' :=
  (Tryd.bits_Len64 7881299347898368 w (by decide) (by decide)).mono (by rintro e w' ⟨rfl, rfl⟩; refine ⟨?_, rfl⟩; rw [show Lib.bitLen (Int.toNat 7881299347898368) = 53 by decide +kernel]; rfl)
theorem numd_Sv (w : World) (htab : Lib.TabIs Tryd.prog w "internal/strconv.uint64pow10" .u64 Lib.pow10Tab) : Calls Tryd.prog 65 #[.int .u64 7000000000000000] w fun e w' => e = .returned (.int .i64 16) ∧ w = w' :=
  (Tryd.internal_strconv_numDigits 7000000000000000 (by decide) (by decide) w htab).mono (by rintro e w' ⟨rfl, rfl⟩; refine ⟨?_, rfl⟩; rw [show Lib.nDigits 7000000000000000 = 16 by decide +kernel]; rfl)
/-- fmtEFG at these digits. -/
def EfgSv (out : List Int) : Prop := ∀ (v : Value) (base g : Nat) (w0 w : World), w.ownsRow base 5 1 v 0 (nums .u8 []) → Below base w0 w → base ≤ w.heap.size → w.cell? ⟨g, 0, none⟩ = some (.int .u8 55) → g < w.heap.size → v.ownBlock ≠ some g → Calls Tryd.prog 62 #[v, .bool false, .slice (some ⟨g, 0, none⟩) 32 32, .int .i64 1, .int .i64 1, .int .i64 1, .int .u8 103, .bool true] w fun e w' => ∃ v', e = .returned v' ∧ w'.ownsRow base 5 1 v' out.length (nums .u8 out) ∧ Below base w0 w'
set_option maxRecDepth 100000 in
set_option maxHeartbeats 6400000 in
theorem ftoa_Sv (out : List Int) (HE : EfgSv out) (v : Value) (base : Nat) (w0 w : World) (HO : w.ownsRow base 5 1 v 0 (nums .u8 [])) (HB : Below base w0 w) (hbase : base ≤ w.heap.size) (hT : Tb w) (hP : PowSv w) : Calls Tryd.prog 52 #[v, .float .f64 4619567317775286272, .int .u8 103, .int .i64 (-1)] w fun e w' => ∃ v', e = .returned v' ∧ w'.ownsRow base 5 1 v' out.length (nums .u8 out) ∧ Below base w0 w' := by
  have b1 : bits .and .i64 1025 2047 = 1025 := by decide +kernel
  have b2 : bits .and .u64 4619567317775286272 4503599627370495 = 3377699720527872 := by decide +kernel
  have b3 : bits .or .u64 3377699720527872 4503599627370496 = 7881299347898368 := by decide +kernel
  have hlt := own_lt HO
  have H1 := Lib.hid (And.intro HO (And.intro HB (And.intro hbase (And.intro hT hlt))))
  have HPP := Lib.hid hP
  have HEE := Lib.hid HE
  clear HO HB hbase hT hlt hP HE
  go_enter Tryd.func52, Tryd.ntmps52
  go_wp2_with fail
  go_quiet (fail)
  go_wp2_with fail
  refine (len_Sv _).mono ?_
  rintro e w1 ⟨rfl, rfl⟩
  go_wp2_with fail
  obtain ⟨W0, hW0⟩ : ∃ W0, W0 = (w.drewN nq).alloc (.cells buf0 82) := ⟨_, rfl⟩
  change Calls _ _ _ ((w.drewN nq).alloc (.cells buf0 82)) _
  rw [← hW0]
  have hBw : Below w.heap.size w W0 := by rw [hW0]; exact (bl_drewN (Below.refl _ _) nq).alloc (Nat.le_refl _) _
  have hk : W0.heap[w.heap.size]? = some (.cells buf0 82 (0, 0)) := by rw [hW0]; exact blk_new_at' _ _ _ rfl
  clear hW0
  refine (short_Sv _ (HPP.out.below hBw)).mono ?_
  rintro e w2 ⟨rfl, B2⟩
  have hk2 := blk_below hk B2
  have hs0 := hBw.size
  have hB2 : Below w.heap.size w w2 := hBw.trans (B2.mono hs0)
  have hTd : Tb w2.drew := H1.out.2.2.2.1.below (Below.drew hB2)
  have hHd : Holds (fun (b : UInt8) => Value.int .u8 (b.toNat : Int)) w2.drew w.heap.size 0 dig0 := holds_buf hk2
  have hg3 : 3 < w.heap.size := H1.out.2.2.2.1.pow.2.2
  have HTd := Lib.hid hTd
  have HHd := Lib.hid hHd
  have HG3 := Lib.hid hg3
  have HB2 := Lib.hid hB2
  have HK2 := Lib.hid (blk_lt hk2)
  clear hBw hk B2 hk2 hs0 hB2 hTd hHd hg3
  go_wp2_with fail
  go_region_held3 (fun x => Tb x) (first | exact HTd.out | assumption | exact HTd.out.belowG ‹_› HG3.out (Below.size ‹_›)) ((first | (go_at_call 65; refine (numd_Sv _ HTd.out.tab).mono ?_; rintro e w3 ⟨rfl, rfl⟩) | (go_at_call 64; refine (setD_Sv _ _ HHd.out).mono ?_; rintro e w4 ⟨rfl, C0, B4⟩)))
  all_goals
    have HC0 := Lib.hid C0
    have HB4 := Lib.hid B4
    clear C0 B4
    go_wp2_with fail
    have hb4 := HB4.out
    have hw4 : Below base w w4 := (HB2.out.mono H1.out.2.2.1).trans ((Below.drew (Below.refl base w2)).trans (hb4.mono H1.out.2.2.1))
    have hO2 := pw_own_below H1.out.1 HB2.out
    have hO4 : w4.ownsRow base 5 1 v 0 (nums .u8 []) := own_move hO2 fun k hk => hb4.block k (H1.out.2.2.2.2 k hk)
    refine (HEE.out v base w.heap.size w0 w4 hO4 (H1.out.2.1.trans hw4) (Nat.le_trans H1.out.2.2.1 (Nat.le_of_lt (Nat.lt_of_lt_of_le HK2.out hb4.size))) HC0.out (Nat.lt_of_lt_of_le HK2.out hb4.size) (fun e => Nat.lt_irrefl _ (H1.out.2.2.2.2 _ e))).mono ?_
    rintro e w5 ⟨v', rfl, HO5, HB5⟩
    have HO5 := Lib.hid HO5
    have HB5 := Lib.hid HB5
    go_wp2_with fail
    go_ret
    exact ⟨v', rfl, HO5.out, HB5.out⟩
end Go.Proofs.YtedllapajgcfeaaDoor
