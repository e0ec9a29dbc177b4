/-
  internal/strconv.ftoa64 up to fmtEFG at the number 300: as at 0.1.
-/
import Derived.Test.YtedllapajgcfeaaDoorTFg
namespace Go.Proofs.YtedllapajgcfeaaDoor
open Go.RowKit Go.Sort Go.Lib Go.Proofs.YtedllapajgcfeaaDoorW.PrintWords

theorem mul_1Th (w : World) : Calls Tryd.prog 96 #[.int .u64 13772540099066387456, .int .u64 13715310171984221709] w fun e w' => e = .returned (.tuple #[.int .u64 10239999999999999776, .int .u64 17308436653340044288]) ∧ w = w' :=
  (Tryd.bits_Mul64 13772540099066387456 13715310171984221709 (by decide) (by decide) w).mono (by rintro e w' ⟨rfl, rfl⟩; exact ⟨rfl, rfl⟩)
theorem mul_2Th (w : World) : Calls Tryd.prog 96 #[.int .u64 13772540099066389504, .int .u64 13715310171984221709] w fun e w' => e = .returned (.tuple #[.int .u64 10240000000000001299, .int .u64 11872444617378993152]) ∧ w = w' :=
  (Tryd.bits_Mul64 13772540099066389504 13715310171984221709 (by decide) (by decide) w).mono (by rintro e w' ⟨rfl, rfl⟩; exact ⟨rfl, rfl⟩)
theorem uscale_1Th (g : Nat) (w : World) (c0 : w.cell? ⟨g, 0, none⟩ = some (.int .u64 13715310171984221709)) (c2 : w.cell? ⟨g, 2, none⟩ = some (.int .i64 8)) : Calls Tryd.prog 79 #[.int .u64 13772540099066387456, .pointer (some ⟨g, 0, none⟩)] w fun e w' => e = .returned (.int .u64 39999999999999999) ∧ w = w' := by
  have b1 : bits .and .i64 8 63 = 8 := by decide +kernel
  have b4 : bits .or .u64 39999999999999999 1 = 39999999999999999 := by decide +kernel
  go_enter Tryd.func79, Tryd.ntmps79
  go_wp2_with fail
  refine (mul_1Th _).mono ?_
  rintro e w1 ⟨rfl, rfl⟩
  go_wp2_with fail
  go_ret
  exact ⟨rfl, rfl⟩
theorem uscale_2Th (g : Nat) (w : World) (c0 : w.cell? ⟨g, 0, none⟩ = some (.int .u64 13715310171984221709)) (c2 : w.cell? ⟨g, 2, none⟩ = some (.int .i64 8)) : Calls Tryd.prog 79 #[.int .u64 13772540099066389504, .pointer (some ⟨g, 0, none⟩)] w fun e w' => e = .returned (.int .u64 40000000000000005) ∧ w = w' := by
  have b1 : bits .and .i64 8 63 = 8 := by decide +kernel
  have b4 : bits .or .u64 40000000000000005 1 = 40000000000000005 := by decide +kernel
  go_enter Tryd.func79, Tryd.ntmps79
  go_wp2_with fail
  refine (mul_2Th _).mono ?_
  rintro e w1 ⟨rfl, rfl⟩
  go_wp2_with fail
  go_ret
  exact ⟨rfl, rfl⟩
theorem nudge_1Th (w : World) : Calls Tryd.prog 80 #[.int .u64 39999999999999999, .int .i64 0] w fun e w' => e = .returned (.int .u64 39999999999999999) ∧ w = w' := by
  go_enter Tryd.func80, Tryd.ntmps80
  go_wp2_with fail
  go_ret
  exact ⟨rfl, rfl⟩
theorem nudge_2Th (w : World) : Calls Tryd.prog 80 #[.int .u64 40000000000000005, .int .i64 0] w fun e w' => e = .returned (.int .u64 40000000000000005) ∧ w = w' := by
  go_enter Tryd.func80, Tryd.ntmps80
  go_wp2_with fail
  go_ret
  exact ⟨rfl, rfl⟩
theorem ceil_1Th (w : World) : Calls Tryd.prog 81 #[.int .u64 39999999999999999] w fun e w' => e = .returned (.int .u64 10000000000000000) ∧ w = w' := by
  go_enter Tryd.func81, Tryd.ntmps81
  go_wp2_with fail
  go_ret
  exact ⟨rfl, rfl⟩
theorem floor_1Th (w : World) : Calls Tryd.prog 82 #[.int .u64 40000000000000005] w fun e w' => e = .returned (.int .u64 10000000000000001) ∧ w = w' := by
  go_enter Tryd.func82, Tryd.ntmps82
  go_wp2_with fail
  go_ret
  exact ⟨rfl, rfl⟩
theorem log10_1Th (w : World) : Calls Tryd.prog 66 #[.int .i64 944] w fun e w' => e = .returned (.int .i64 284) ∧ w = w' := by
  go_enter Tryd.func66, Tryd.ntmps66
  go_wp2_with fail
  go_ret
  exact ⟨rfl, rfl⟩
theorem log2_1Th (w : World) : Calls Tryd.prog 78 #[.int .i64 (-284)] w fun e w' => e = .returned (.int .i64 (-944)) ∧ w = w' := by
  go_enter Tryd.func78, Tryd.ntmps78
  go_wp2_with fail
  go_ret
  exact ⟨rfl, rfl⟩
theorem prescale_Th (g : Nat) (w : World) (hK : w.heap[g]? = some (.cells #[.int .u64 0, .int .u64 0, .int .i64 0] 102 (0, 0))) (t0 : w.cell? ⟨3, 128, none⟩ = some (.int .u64 13715310171984221709)) (t1 : w.cell? ⟨3, 129, none⟩ = some (.int .u64 15867139798476597932)) (hg : g ≠ 3) : Calls Tryd.prog 77 #[.pointer (some ⟨g, 0, none⟩), .int .i64 933, .int .i64 (-284), .int .i64 (-944)] w fun e w' => e = .returned (.tuple #[]) ∧ w' = ((w.setCell ⟨g, 0, none⟩ (.int .u64 13715310171984221709)).setCell ⟨g, 1, none⟩ (.int .u64 15867139798476597932)).setCell ⟨g, 2, none⟩ (.int .i64 8) := by
  have k0 : w.cell? ⟨g, 0, none⟩ = some (.int .u64 0) := (blk_cell hK 0).trans rfl
  have k1 : w.cell? ⟨g, 1, none⟩ = some (.int .u64 0) := (blk_cell hK 1).trans rfl
  have k2 : w.cell? ⟨g, 2, none⟩ = some (.int .i64 0) := (blk_cell hK 2).trans rfl
  have hg' : ¬ 3 = g := fun e => hg e.symm
  have f0 := blk_frozen hK 0
  have f1 := blk_frozen hK 1
  have f2 := blk_frozen hK 2
  clear hK
  go_enter Tryd.func77, Tryd.ntmps77
  go_wp2_with fail
  first
  | (go_end0; exact ⟨rfl, rfl⟩)
  | exact bodyPost_ret (results_none rfl _ _ _) rfl ⟨rfl, rfl⟩
def PowTh (w : World) : Prop := w.cell? ⟨3, 128, none⟩ = some (.int .u64 13715310171984221709) ∧ w.cell? ⟨3, 129, none⟩ = some (.int .u64 15867139798476597932) ∧ 3 < w.heap.size
theorem PowTh.belowG {w w' : World} {g : Nat} (h : PowTh w) (hb : Below g w w') (hg : 3 < g) (hs : w.heap.size ≤ w'.heap.size) : PowTh w' :=
  ⟨(hb.cell (p := ⟨3, 128, none⟩) hg).trans h.1, (hb.cell (p := ⟨3, 129, none⟩) hg).trans h.2.1, Nat.lt_of_lt_of_le h.2.2 hs⟩
theorem PowTh.below {w w' : World} (h : PowTh w) (hb : Below w.heap.size w w') : PowTh w' := h.belowG hb h.2.2 hb.size
def scwTh (w : World) : World := (((w.alloc scz).setCell ⟨w.heap.size, 0, none⟩ (.int .u64 13715310171984221709)).setCell ⟨w.heap.size, 1, none⟩ (.int .u64 15867139798476597932)).setCell ⟨w.heap.size, 2, none⟩ (.int .i64 8)
theorem scwTh_blk (w : World) : (scwTh w).heap[w.heap.size]? = some (.cells #[.int .u64 13715310171984221709, .int .u64 15867139798476597932, .int .i64 8] 102 (0, 0)) :=
  blk_put (blk_put (blk_put (w := w.alloc scz) (cs := #[.int .u64 0, .int .u64 0, .int .i64 0]) (blk_new w scz) 0 _ rfl) 1 _ rfl) 2 _ rfl
theorem scwTh_below (w : World) : Below w.heap.size w (scwTh w) := by
  unfold scwTh
  exact ((((Below.refl _ _).alloc (Nat.le_refl _) _).setCell (Nat.le_refl _) _).setCell (Nat.le_refl _) _).setCell (Nat.le_refl _) _
set_option maxHeartbeats 1600000 in
theorem short_Th (w : World) (hp : PowTh w) : Calls Tryd.prog 71 #[.int .u64 13772540099066388480, .int .i64 933] w fun e w' => e = .returned (.tuple #[.int .u64 1000000000000000, .int .i64 285]) ∧ Below w.heap.size w w' := by
  have hg : w.heap.size ≠ 3 := by have := hp.2.2; omega
  have T0 : (w.alloc scz).cell? ⟨3, 128, none⟩ = some (.int .u64 13715310171984221709) := (((Below.refl w.heap.size w).alloc (Nat.le_refl _) scz).cell (p := ⟨3, 128, none⟩) hp.2.2).trans hp.1
  have T1 : (w.alloc scz).cell? ⟨3, 129, none⟩ = some (.int .u64 15867139798476597932) := (((Below.refl w.heap.size w).alloc (Nat.le_refl _) scz).cell (p := ⟨3, 129, none⟩) hp.2.2).trans hp.2.1
  have HP : Hid (Calls Tryd.prog 77 #[.pointer (some ⟨w.heap.size, 0, none⟩), .int .i64 933, .int .i64 (-284), .int .i64 (-944)] (w.alloc scz) fun e w' => e = .returned (.tuple #[]) ∧ w' = scwTh w) := Lib.hid (prescale_Th w.heap.size (w.alloc scz) (blk_new w scz) T0 T1 hg)
  have b1 : bits .and .i64 6724873095247260 1 = 0 := by decide +kernel
  have c0 := Lib.hid ((blk_cell (scwTh_blk w) 0).trans rfl : (scwTh w).cell? ⟨w.heap.size, 0, none⟩ = some (.int .u64 13715310171984221709))
  have c2 := Lib.hid ((blk_cell (scwTh_blk w) 2).trans rfl : (scwTh w).cell? ⟨w.heap.size, 2, none⟩ = some (.int .i64 8))
  clear T0 T1 hg hp
  go_enter Tryd.func71, Tryd.ntmps71
  go_wp2_with fail
  refine (log10_1Th _).mono ?_
  rintro e w1 ⟨rfl, rfl⟩
  go_wp2_with fail
  refine (log2_1Th _).mono ?_
  rintro e w1 ⟨rfl, rfl⟩
  go_wp2_with fail
  refine (HP.out).mono ?_
  rintro e w1 ⟨rfl, rfl⟩
  have hB := Lib.hid (scwTh_below w)
  generalize scwTh w = w1 at c0 c2 hB ⊢
  go_wp2_with fail
  refine (uscale_1Th _ _ c0.out c2.out).mono ?_
  rintro e w2 ⟨rfl, rfl⟩
  go_wp2_with fail
  refine (nudge_1Th _).mono ?_
  rintro e w2 ⟨rfl, rfl⟩
  go_wp2_with fail
  refine (ceil_1Th _).mono ?_
  rintro e w2 ⟨rfl, rfl⟩
  go_wp2_with fail
  refine (uscale_2Th _ _ c0.out c2.out).mono ?_
  rintro e w2 ⟨rfl, rfl⟩
  go_wp2_with fail
  refine (nudge_2Th _).mono ?_
  rintro e w2 ⟨rfl, rfl⟩
  go_wp2_with fail
  refine (floor_1Th _).mono ?_
  rintro e w2 ⟨rfl, rfl⟩
  go_wp2_with fail
  go_ret2
  exact ⟨rfl, hB.out⟩
theorem dg_0Th : dg 1000000000000000 15 = 49 := by decide +kernel
theorem dg_1Th : ∀ j : Fin 16, 1 ≤ j.val → dg 1000000000000000 (15 - j.val) = 48 := by decide +kernel
theorem fmt_Th (g : Nat) (w : World) (hH : Holds (fun (b : UInt8) => Value.int .u8 (b.toNat : Int)) w g 0 dig0) : Calls Tryd.prog 84 #[.slice (some ⟨g, 0, none⟩) 16 32, .int .u64 1000000000000000] w fun e w' => e = .returned (.tuple #[]) ∧ w'.cell? ⟨g, 0, none⟩ = some (.int .u8 49) ∧ (∀ j, 1 ≤ j → j < 16 → w'.cell? ⟨g, j, none⟩ = some (.int .u8 48)) ∧ Below g w w' := by
  have := Tryd.internal_strconv_formatBase10 g 0 32 1000000000000000 dig0 w hH (by decide) (by decide) (by decide)
  refine Calls.mono this ?_
  rintro e w' ⟨rfl, n, v', dk, rfl, hF⟩
  have hs : dk.size = dig0.size := hF.size
  have hc := fun j (hj : j < 16) => cell?_putRow (fun (b : UInt8) => Value.int .u8 (b.toNat : Int)) w g 0 dig0 dk hH hs j (by rw [hs]; exact hj)
  refine ⟨rfl, ?_, ?_, below_putRow (q := n) (Below.refl g w) (Nat.le_refl g)⟩
  · refine (hc 0 (by omega)).trans ?_
    rw [hF.done 0 (Nat.le_refl _) (by decide)]
    show some (Value.int .u8 ((dg 1000000000000000 15).toNat : Int)) = _
    rw [dg_0Th]; rfl
  · intro j h1 h2
    have := hc j h2
    rw [Nat.zero_add] at this
    refine Eq.trans this ?_
    rw [hF.done j (Nat.zero_le _) h2]
    show some (Value.int .u8 ((dg 1000000000000000 (15 - j)).toNat : Int)) = _
    rw [dg_1Th ⟨j, h2⟩ h1]; rfl
set_option maxHeartbeats 1600000 in
theorem setD_Th (g : Nat) (w : World) (hH : Holds (fun (b : UInt8) => Value.int .u8 (b.toNat : Int)) w g 0 dig0) : Calls Tryd.prog 64 #[.slice (some ⟨g, 0, none⟩) 32 32, .int .u64 1000000000000000, .int .i64 285, .int .i64 16] w fun e w' => e = .returned (.tuple #[.int .i64 301, .int .i64 1]) ∧ w'.cell? ⟨g, 0, none⟩ = some (.int .u8 49) ∧ Below g w w' := by
  have HF := Lib.hid (fmt_Th g w hH)
  clear hH
  go_enter Tryd.func64, Tryd.ntmps64
  go_wp2_with fail
  refine (HF.out).mono ?_
  rintro e w1 ⟨rfl, C0, C1, B1⟩
  replace C1 := Lib.hid C1
  replace B1 := Lib.hid B1
  clear HF
  go_wp2_with fail
  go_loopw [3] (fun i wr => ∃ k : Nat, k < 16 ∧ i = .int .i64 (k + 1) ∧ wr = w1) (fun i _ => (RowKit.intOf i).toNat)
  case atStart => exact ⟨15, by omega, rfl, rfl⟩
  case round =>
    obtain ⟨k, hk, rfl, rfl⟩ := hrel
    have i1 : (0 : Int) ≤ (k : Int) := by omega
    have i2 : (k : Int) < 32 := by omega
    have i3 : (0 : Int) < (k : Int) + 1 := by omega
    have i4 : (k : Int) + 1 ≤ 16 := by omega
    by_cases h0 : k = 0
    · subst h0
      clear C1
      go_wp2_with fail
      go_ret2
      exact ⟨rfl, C0, B1.out⟩
    · have C := C1.out k (by omega) hk
      obtain ⟨m, rfl⟩ : ∃ m, k = m + 1 := ⟨k - 1, by omega⟩
      go_wp2_with fail
      go_roundw
      case rel => exact ⟨m, by omega, by go_num, trivial⟩
      case measure => simp [RowKit.intOf] <;> omega
theorem len_Th (w : World) : Calls Tryd.prog 50 #[.int .u64 6724873095247260] w fun e w' => e = .returned (.int .i64 53) ∧ w = w' :=
  (Tryd.bits_Len64 6724873095247260 w (by decide) (by decide)).mono (by rintro e w' ⟨rfl, rfl⟩; refine ⟨?_, rfl⟩; rw [show Lib.bitLen (Int.toNat 6724873095247260) = 53 by decide +kernel]; rfl)
theorem numd_Th (w : World) (htab : Lib.TabIs Tryd.prog w "internal/strconv.uint64pow10" .u64 Lib.pow10Tab) : Calls Tryd.prog 65 #[.int .u64 1000000000000000] w fun e w' => e = .returned (.int .i64 16) ∧ w = w' :=
  (Tryd.internal_strconv_numDigits 1000000000000000 (by decide) (by decide) w htab).mono (by rintro e w' ⟨rfl, rfl⟩; refine ⟨?_, rfl⟩; rw [show Lib.nDigits 1000000000000000 = 16 by decide +kernel]; rfl)
/-- fmtEFG at these digits. -/
def EfgTh (out : List Int) : Prop := ∀ (v : Value) (base g : Nat) (w0 w : World), w.ownsRow base 5 1 v 0 (nums .u8 []) → Below base w0 w → base ≤ w.heap.size → w.cell? ⟨g, 0, none⟩ = some (.int .u8 49) → g < w.heap.size → v.ownBlock ≠ some g → Calls Tryd.prog 62 #[v, .bool false, .slice (some ⟨g, 0, none⟩) 32 32, .int .i64 301, .int .i64 1, .int .i64 1, .int .u8 103, .bool true] w fun e w' => ∃ v', e = .returned v' ∧ w'.ownsRow base 5 1 v' out.length (nums .u8 out) ∧ Below base w0 w'
set_option maxRecDepth 100000 in
set_option maxHeartbeats 6400000 in
theorem ftoa_Th (out : List Int) (HE : EfgTh out) (v : Value) (base : Nat) (w0 w : World) (HO : w.ownsRow base 5 1 v 0 (nums .u8 [])) (HB : Below base w0 w) (hbase : base ≤ w.heap.size) (hT : Tb w) (hP : PowTh w) : Calls Tryd.prog 52 #[v, .float .f64 9094988921128908188, .int .u8 103, .int .i64 (-1)] w fun e w' => ∃ v', e = .returned v' ∧ w'.ownsRow base 5 1 v' out.length (nums .u8 out) ∧ Below base w0 w' := by
  have b1 : bits .and .i64 2019 2047 = 2019 := by decide +kernel
  have b2 : bits .and .u64 9094988921128908188 4503599627370495 = 2221273467876764 := by decide +kernel
  have b3 : bits .or .u64 2221273467876764 4503599627370496 = 6724873095247260 := by decide +kernel
  have hlt := own_lt HO
  have H1 := Lib.hid (And.intro HO (And.intro HB (And.intro hbase (And.intro hT hlt))))
  have HPP := Lib.hid hP
  have HEE := Lib.hid HE
  clear HO HB hbase hT hlt hP HE
  go_enter Tryd.func52, Tryd.ntmps52
  go_wp2_with fail
  go_quiet (fail)
  go_wp2_with fail
  refine (len_Th _).mono ?_
  rintro e w1 ⟨rfl, rfl⟩
  go_wp2_with fail
  obtain ⟨W0, hW0⟩ : ∃ W0, W0 = (w.drewN nq).alloc (.cells buf0 82) := ⟨_, rfl⟩
  change Calls _ _ _ ((w.drewN nq).alloc (.cells buf0 82)) _
  rw [← hW0]
  have hBw : Below w.heap.size w W0 := by rw [hW0]; exact (bl_drewN (Below.refl _ _) nq).alloc (Nat.le_refl _) _
  have hk : W0.heap[w.heap.size]? = some (.cells buf0 82 (0, 0)) := by rw [hW0]; exact blk_new_at' _ _ _ rfl
  clear hW0
  refine (short_Th _ (HPP.out.below hBw)).mono ?_
  rintro e w2 ⟨rfl, B2⟩
  have hk2 := blk_below hk B2
  have hs0 := hBw.size
  have hB2 : Below w.heap.size w w2 := hBw.trans (B2.mono hs0)
  have hTd : Tb w2.drew := H1.out.2.2.2.1.below (Below.drew hB2)
  have hHd : Holds (fun (b : UInt8) => Value.int .u8 (b.toNat : Int)) w2.drew w.heap.size 0 dig0 := holds_buf hk2
  have hg3 : 3 < w.heap.size := H1.out.2.2.2.1.pow.2.2
  have HTd := Lib.hid hTd
  have HHd := Lib.hid hHd
  have HG3 := Lib.hid hg3
  have HB2 := Lib.hid hB2
  have HK2 := Lib.hid (blk_lt hk2)
  clear hBw hk B2 hk2 hs0 hB2 hTd hHd hg3
  go_wp2_with fail
  go_region_held3 (fun x => Tb x) (first | exact HTd.out | assumption | exact HTd.out.belowG ‹_› HG3.out (Below.size ‹_›)) ((first | (go_at_call 65; refine (numd_Th _ HTd.out.tab).mono ?_; rintro e w3 ⟨rfl, rfl⟩) | (go_at_call 64; refine (setD_Th _ _ HHd.out).mono ?_; rintro e w4 ⟨rfl, C0, B4⟩)))
  all_goals
    have HC0 := Lib.hid C0
    have HB4 := Lib.hid B4
    clear C0 B4
    go_wp2_with fail
    have hb4 := HB4.out
    have hw4 : Below base w w4 := (HB2.out.mono H1.out.2.2.1).trans ((Below.drew (Below.refl base w2)).trans (hb4.mono H1.out.2.2.1))
    have hO2 := pw_own_below H1.out.1 HB2.out
    have hO4 : w4.ownsRow base 5 1 v 0 (nums .u8 []) := own_move hO2 fun k hk => hb4.block k (H1.out.2.2.2.2 k hk)
    refine (HEE.out v base w.heap.size w0 w4 hO4 (H1.out.2.1.trans hw4) (Nat.le_trans H1.out.2.2.1 (Nat.le_of_lt (Nat.lt_of_lt_of_le HK2.out hb4.size))) HC0.out (Nat.lt_of_lt_of_le HK2.out hb4.size) (fun e => Nat.lt_irrefl _ (H1.out.2.2.2.2 _ e))).mono ?_
    rintro e w5 ⟨v', rfl, HO5, HB5⟩
    have HO5 := Lib.hid HO5
    have HB5 := Lib.hid HB5
    go_wp2_with fail
    go_ret
    exact ⟨v', rfl, HO5.out, HB5.out⟩
end Go.Proofs.YtedllapajgcfeaaDoor
