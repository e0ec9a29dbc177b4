/-
  internal/strconv.ftoa64 at the number 0.1: it appends 0.1.
-/
import Derived.Test.YtedllapajgcfeaaGreatDoorTFe
import Derived.Test.YtedllapajgcfeaaGreatDoorTFf
import Derived.ChangeKeysEq
import Derived.WalkSmall
namespace Go.Proofs.YtedllapajgcfeaaGreatDoor
open Go.RowKit Go.Sort Go.Proofs.YtedllapajgcfeaaGreatDoorW.PrintWords

/-- The tables stand. -/
structure Tb (w : World) : Prop where
  pow : Pow w
  tab : Lib.TabIs Tryz.prog w "internal/strconv.uint64pow10" .u64 Lib.pow10Tab
theorem Tb.belowG {w w' : World} {g : Nat} (h : Tb w) (hb : Below g w w') (hg : 10 < g) (hs : w.heap.size ≤ w'.heap.size) : Tb w' := by
  obtain ⟨⟨p1, p2, p3⟩, t⟩ := h
  exact ⟨⟨(hb.cell (p := ⟨10, 730, none⟩) hg).trans p1, (hb.cell (p := ⟨10, 731, none⟩) hg).trans p2, Nat.lt_of_lt_of_le p3 hs⟩, var?_below hb (g := 6) (by kernel_rfl) (by show 6 < g; omega) t⟩
theorem Tb.below {w w' : World} (h : Tb w) (hb : Below w.heap.size w w') : Tb w' := h.belowG hb h.pow.2.2 hb.size
def buf0 : Array Value := #[.int .u8 0, .int .u8 0, .int .u8 0, .int .u8 0, .int .u8 0, .int .u8 0, .int .u8 0, .int .u8 0, .int .u8 0, .int .u8 0, .int .u8 0, .int .u8 0, .int .u8 0, .int .u8 0, .int .u8 0, .int .u8 0, .int .u8 0, .int .u8 0, .int .u8 0, .int .u8 0, .int .u8 0, .int .u8 0, .int .u8 0, .int .u8 0, .int .u8 0, .int .u8 0, .int .u8 0, .int .u8 0, .int .u8 0, .int .u8 0, .int .u8 0, .int .u8 0]
theorem buf_at (j : Nat) (h : j < 16) : buf0[j]? = some (.int .u8 ((dig0[j]! : UInt8).toNat : Int)) := by
  obtain rfl | rfl | rfl | rfl | rfl | rfl | rfl | rfl | rfl | rfl | rfl | rfl | rfl | rfl | rfl | rfl : j = 0 ∨ j = 1 ∨ j = 2 ∨ j = 3 ∨ j = 4 ∨ j = 5 ∨ j = 6 ∨ j = 7 ∨ j = 8 ∨ j = 9 ∨ j = 10 ∨ j = 11 ∨ j = 12 ∨ j = 13 ∨ j = 14 ∨ j = 15 := by omega
  all_goals rfl
theorem bl_drewN {B : Nat} {a w : World} (h : Below B a w) (n : Nat) : Below B a (w.drewN n) := ⟨h.os, h.tape, h.output, h.size, h.block⟩
theorem blk_new_at' (W : World) (o : Obj) (g : Nat) (h : W.heap.size = g) : (W.alloc o).heap[g]? = some o := h ▸ blk_new W o
theorem holds_buf {z : World} {g : Nat} (h : z.heap[g]? = some (.cells buf0 85 (0, 0))) : Holds (fun (b : UInt8) => Value.int .u8 (b.toNat : Int)) z g 0 dig0 := by
  intro j hj
  have h16 : j < 16 := by simpa [dig0] using hj
  rw [Nat.zero_add]
  exact ⟨(blk_cell h j).trans (buf_at j h16), blk_frozen h j⟩
set_option maxRecDepth 100000 in
set_option maxHeartbeats 6400000 in
theorem ftoa_1 (v : Value) (base : Nat) (w0 w : World) (HO : w.ownsRow base 5 1 v 0 (nums .u8 [])) (HB : Below base w0 w) (hbase : base ≤ w.heap.size) (hT : Tb w) : Calls Tryz.prog 48 #[v, .float .f64 4591870180066957722, .int .u8 103, .int .i64 (-1)] w fun e w' => ∃ v', e = .returned v' ∧ w'.ownsRow base 5 1 v' 3 (nums .u8 [48, 46, 49]) ∧ Below base w0 w' := by
  have b1 : bits .and .i64 1019 2047 = 1019 := by decide +kernel
  have b2 : bits .and .u64 4591870180066957722 4503599627370495 = 2702159776422298 := by decide +kernel
  have b3 : bits .or .u64 2702159776422298 4503599627370496 = 7205759403792794 := by decide +kernel
  have hlt := own_lt HO
  have H1 := Lib.hid (And.intro HO (And.intro HB (And.intro hbase (And.intro hT hlt))))
  clear HO HB hbase hT hlt
  go_enter Tryz.func48, Tryz.ntmps48
  go_wp2_with fail
  go_quiet (fail)
  go_wp2_with fail
  refine (len_1 _).mono ?_
  rintro e w1 ⟨rfl, rfl⟩
  go_wp2_with fail
  obtain ⟨W0, hW0⟩ : ∃ W0, W0 = (w.drewN nq).alloc (.cells buf0 85) := ⟨_, rfl⟩
  change Calls _ _ _ ((w.drewN nq).alloc (.cells buf0 85)) _
  rw [← hW0]
  have hBw : Below w.heap.size w W0 := by rw [hW0]; exact (bl_drewN (Below.refl _ _) nq).alloc (Nat.le_refl _) _
  have hk : W0.heap[w.heap.size]? = some (.cells buf0 85 (0, 0)) := by rw [hW0]; exact blk_new_at' _ _ _ rfl
  clear hW0
  refine (short_1 _ (H1.out.2.2.2.1.below hBw).pow).mono ?_
  rintro e w2 ⟨rfl, B2⟩
  have hk2 := blk_below hk B2
  have hs0 := hBw.size
  have hB2 : Below w.heap.size w w2 := hBw.trans (B2.mono hs0)
  have hTd : Tb w2.drew := H1.out.2.2.2.1.below (Below.drew hB2)
  have hHd : Holds (fun (b : UInt8) => Value.int .u8 (b.toNat : Int)) w2.drew w.heap.size 0 dig0 := holds_buf hk2
  have hg3 : 10 < w.heap.size := H1.out.2.2.2.1.pow.2.2
  have HTd := Lib.hid hTd
  have HHd := Lib.hid hHd
  have HG3 := Lib.hid hg3
  have HB2 := Lib.hid hB2
  have HK2 := Lib.hid (blk_lt hk2)
  clear hBw hk B2 hk2 hs0 hB2 hTd hHd hg3
  go_wp2_with fail
  go_region_held3 (fun x => Tb x) (first | exact HTd.out | assumption | exact HTd.out.belowG ‹_› HG3.out (Below.size ‹_›)) ((first | (go_at_call 64; refine (numd_1 _ HTd.out.tab).mono ?_; rintro e w3 ⟨rfl, rfl⟩) | (go_at_call 63; refine (setD_1 _ _ HHd.out).mono ?_; rintro e w4 ⟨rfl, C0, B4⟩)))
  all_goals
    have HC0 := Lib.hid C0
    have HB4 := Lib.hid B4
    clear C0 B4
    go_wp2_with fail
    have hb4 := HB4.out
    have hw4 : Below base w w4 := (HB2.out.mono H1.out.2.2.1).trans ((Below.drew (Below.refl base w2)).trans (hb4.mono H1.out.2.2.1))
    have hO2 := pw_own_below H1.out.1 HB2.out
    have hO4 : w4.ownsRow base 5 1 v 0 (nums .u8 []) := own_move hO2 fun k hk => hb4.block k (H1.out.2.2.2.2 k hk)
    refine (efg_1 v base w.heap.size w0 w4 hO4 (H1.out.2.1.trans hw4) (Nat.le_trans H1.out.2.2.1 (Nat.le_of_lt (Nat.lt_of_lt_of_le HK2.out hb4.size))) HC0.out (Nat.lt_of_lt_of_le HK2.out hb4.size) (fun e => Nat.lt_irrefl _ (H1.out.2.2.2.2 _ e))).mono ?_
    rintro e w5 ⟨v', rfl, HO5, HB5⟩
    have HO5 := Lib.hid HO5
    have HB5 := Lib.hid HB5
    go_wp2_with fail
    go_ret
    exact ⟨v', rfl, HO5.out, HB5.out⟩
end Go.Proofs.YtedllapajgcfeaaGreatDoor
