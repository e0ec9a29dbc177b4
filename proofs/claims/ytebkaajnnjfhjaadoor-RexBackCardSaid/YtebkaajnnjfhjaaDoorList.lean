/-
  math/bits.TrailingZeros64 and octets.List: walked.
-/
import Derived.Test.YtebkaajnnjfhjaaDoorMay
import Derived.Test.YtebkaajnnjfhjaaDoorBits
import Derived.Test.YtebkaajnnjfhjaaDoorOcs
import Derived.Test.YtebkaajnnjfhjaaDoorShf
import Derived.Shelf.Spec.TrailingZeros
import Derived.WalkSmall
import Derived.ChangeKeysEq
namespace Go.Proofs.YtebkaajnnjfhjaaDoor
set_option linter.unusedVariables false
set_option linter.unusedSimpArgs false
open Go.RowKit Go.Proofs.YtebkaajnnjfhjaaDoorW.PrintWords

/-- The tables stand in their blocks. -/
structure Laid (w : World) : Prop where
  bru : ∀ j, j < 64 → w.cell? ⟨0, j, none⟩ = some (.int .u8 (Lib.deBruijn64tab.getD j 0))
  pow : Lib.TabIs Tryd.prog w "internal/strconv.uint64pow10" .u64 Lib.pow10Tab
  size : 2 < w.heap.size
theorem tz_core (x k idx : Nat) (w : World) (hx0 : ((x : Int) == 0) = false)
    (key : IntKind.u64.wrap (bits BinOp.and IntKind.u64 (x : Int) (IntKind.u64.wrap (-(x : Int))) * 285870213051353865) / 288230376151711744 = (idx : Int))
    (hi : idx < 64) (hk : k < 64) (hcell : w.cell? ⟨0, idx, none⟩ = some (.int .u8 k)) :
    Calls Tryd.prog 70 #[.int .u64 x] w fun e w' => e = .returned (.int .i64 k) ∧ w = w' := by
  go_enter Tryd.func70, Tryd.ntmps70
  go_wp2_with (simp only [key])
  go_ret
  exact ⟨rfl, rfl⟩
theorem tz_any (x : Nat) (h0 : x ≠ 0) (hx : x < 18446744073709551616) (w : World) (hL : Laid w) : Calls Tryd.prog 70 #[.int .u64 x] w fun e w' => e = .returned (.int .i64 (Lib.ctz 64 x)) ∧ w = w' := by
  obtain ⟨hlow, hk⟩ := Lib.lowest_bit 64 x h0 hx
  obtain ⟨hi, htab⟩ := Lib.deBruijn64_at _ hk
  have hcell := hL.bru _ hi
  rw [htab] at hcell
  exact tz_core x _ _ w (by simp; omega) (tz64_key x _ hx h0 hlow) hi hk hcell
theorem Laid.below {w w' : World} (h : Laid w) (hb : Below w.heap.size w w') : Laid w' :=
  ⟨fun j hj => (hb.cell (p := ⟨0, j, none⟩) (by have := h.size; show 0 < _; omega)).trans (h.bru j hj),
   var?_below hb (g := 2) (by kernel_rfl) (by have := h.size; omega) h.pow, Nat.lt_of_lt_of_le h.size hb.size⟩
/-- An array's element, by value. -/
theorem run_index_row {P : Program} {w : World} (t e : TypeId) (n : Nat) (cs : Array Value) (k : IntKind) (i : Nat) (h : P.underlying t = some (.array n e)) {I : TypeInfo} (hs : P.info? e = some I) (h1 : P.cellsOf e = 1) (he : P.plainKey e = true) (hi : i < n) (v : Value) (hv : cs[i]? = some v) :
    (Instr.index t (.agg cs) (.int k i)).run P w = .ok v w := by
  have hn : (0 : Int) ≤ (i : Int) ∧ (i : Int) < n := by omega
  have hp := run_part_plain (P := P) (w := w) he hv
  unfold Instr.index
  simp [run_underlying h, asIntOf, hn, run_sizeOf w hs, h1, Result.andThen, hi, hp]
set_option maxRecDepth 100000 in
theorem ix_word (s : W4) (i : Nat) (hi : i < 4) (k : IntKind) (w : World) : (Instr.index 24 (.agg #[.int .u64 s.a, .int .u64 s.b, .int .u64 s.c, .int .u64 s.d]) (.int k i)).run Tryd.prog w = .ok (.int .u64 (s.word i)) w := by
  have h4 : i = 0 ∨ i = 1 ∨ i = 2 ∨ i = 3 := by omega
  rcases h4 with rfl | rfl | rfl | rfl
  all_goals exact run_index_row _ 22 4 _ k _ Tryd.underlying24 (I := _) rfl (by kernel_rfl) (by kernel_rfl) (by omega) _ rfl
theorem word_lt (s : W4) (hs : s.Ok) (i : Nat) : s.word i < 18446744073709551616 := by
  obtain ⟨h1, h2, h3, h4⟩ := hs
  unfold W4.word
  split
  · exact h1
  split
  · exact h2
  split
  · exact h3
  · exact h4
theorem and_pred (x : Nat) (h0 : x ≠ 0) (hx : x < 18446744073709551616) : bits .and .u64 (x : Int) ((x : Int) - 1) = ((x &&& (x - 1) : Nat) : Int) := by
  rw [show ((x : Int) - 1) = ((x - 1 : Nat) : Int) by omega]
  exact u64_and_nat x (x - 1) hx (by omega)
set_option maxRecDepth 100000 in
set_option maxHeartbeats 1600000 in
theorem list_any (s : W4) (hs : s.Ok) (w : World) (hL : Laid w) : Calls Tryd.prog 58 #[.agg #[.int .u64 s.a, .int .u64 s.b, .int .u64 s.c, .int .u64 s.d]] w fun e w' => ∃ v, e = .returned v ∧ w'.ownsRow w.heap.size 5 1 v (bts (Tr.mems s)).length (nums .u8 (bts (Tr.mems s))) ∧ Below w.heap.size w w' := by
  have HL := Lib.hid hL
  have HW := Lib.hid (word_lt s hs)
  have HM := Lib.hid (Tr.mems_words s)
  clear hL hs
  go_enter Tryd.func58, Tryd.ntmps58
  go_wp2_with fail
  have hB0 : Below w.heap.size w (w.alloc (.cells #[.int .u64 s.a, .int .u64 s.b, .int .u64 s.c, .int .u64 s.d] 24)) := by (repeat (first | exact Below.refl _ _ | assumption | refine Below.drew ?_ | refine Below.alloc ?_ (by first | exact Nat.le_refl _ | (simp; done) | (simp; omega) | omega) _ | refine Below.setCell ?_ (by first | exact Nat.le_refl _ | (simp; done) | (simp; omega) | omega) _))
  generalize w.alloc (.cells #[.int .u64 s.a, .int .u64 s.b, .int .u64 s.c, .int .u64 s.d] 24) = W0 at hB0 ⊢
  go_loopw [7, 3] (fun i v wr => ∃ k : Nat, k ≤ 4 ∧ i = .int .i64 k ∧ wr.ownsRow w.heap.size 5 1 v (bts (Tr.wordsTo s k)).length (nums .u8 (bts (Tr.wordsTo s k))) ∧ Below w.heap.size w wr) (fun i _ _ => 4 - (RowKit.intOf i).toNat)
  case atStart => exact ⟨0, by omega, rfl, own_nil _ _ _ _, hB0⟩
  case round =>
    clear hB0
    obtain ⟨k, hk, rfl, HO, HB⟩ := hrel
    by_cases hlt : k < 4
    · have e4 : decide ((k : Int) < 4) = true := decide_eq_true (by omega)
      have hix := fun kk w => ix_word s k hlt kk w
      have hwl := HW.out k
      have hws : Hid (Tr.wordsTo s (k + 1) = Tr.wordsTo s k ++ Tr.bitsOf k (s.word k)) := Lib.hid rfl
      have hwn := Tr.wordsTo_len s k
      generalize s.word k = x at hix hwl hws
      generalize Tr.wordsTo s k = D at HO hws hwn
      go_wp2_with fail
      go_loopw [5, 3] (fun xv v wi => ∃ (y : Nat) (D2 : List UInt8), xv = .int .u64 y ∧ y < 18446744073709551616 ∧ wi.ownsRow w.heap.size 5 1 v (bts D2).length (nums .u8 (bts D2)) ∧ Below w.heap.size w wi ∧ D2.length + (Tr.bitsOf k y).length ≤ 320 ∧ Hid (D2 ++ Tr.bitsOf k y = D ++ Tr.bitsOf k x)) (fun xv _ _ => (Tr.bitsOf 0 (RowKit.intOf xv).toNat).length)
      case atStart => exact ⟨x, D, rfl, hwl, HO, HB, by have := Tr.bitsOf_len k x; omega, Lib.hid rfl⟩
      case round =>
        clear HO HB
        obtain ⟨y, D2, rfl, hy, HO, HB, hlen, HD⟩ := hrel
        by_cases h0 : y = 0
        · subst h0
          go_wp2_with fail
          go_roundw
          case rel =>
            have e := HD.out
            rw [Tr.bitsOf_zero, List.append_nil, ← hws.out] at e
            exact ⟨k + 1, by omega, by go_num, by rw [← e]; exact HO, HB⟩
          case measure => simp [RowKit.intOf]; omega
        · have hyn : ((y : Int) != 0) = true := bne_t (by omega)
          have hst := Lib.hid (Tr.bitsOf_step k y h0 hy)
          have hs0 := Lib.hid (Tr.bitsOf_step 0 y h0 hy)
          have hz := HB.size
          have hct := (Tr.ctz_bits y h0 hy).1
          have hap := Lib.hid (and_pred y h0 hy)
          have hTZ := Lib.hid (tz_any y h0 hy _ ((HL.out).below HB))
          have hl2 : D2.length + 1 ≤ 320 := by
            rw [hst.out, List.length_cons] at hlen; omega
          generalize hcz : Lib.ctz 64 y = cz at hst hct hTZ
          have HH0 := Lib.hid h0
          clear hcz h0
          go_wp2_with fail
          refine (hTZ.out).mono ?_
          rintro e w1 ⟨rfl, rfl⟩
          clear hTZ
          have hy1 : (1 : Int) ≤ (y : Int) := by have := HH0.out; omega
          go_wp2_with (at_builtin; refine print_append_num (w0 := w) w.heap.size rfl _ _ _ 5 .u8 1 rfl Tryd.underlying46 (by kernel_rfl) (by omega) _ (bts D2) _ rfl rfl (by exact HO) (by exact HB) hz (by rw [bts_len]; omega) ?_; intro v1 w2 HO1 HB1 hg1 hat1)
          go_roundw
          case rel =>
            have ec : ((UInt8.ofNat (64 * k + cz)).toNat : Int) = (k : Int) * 64 + cz := by
              rw [UInt8.toNat_ofNat']
              simp
              omega
            have R : ∃ (y' : Nat) (D' : List UInt8), Value.int .u64 (bits .and .u64 (y : Int) ((y : Int) - 1)) = .int .u64 y' ∧ y' < 18446744073709551616 ∧ w2.ownsRow w.heap.size 5 1 v1 (bts D').length (nums .u8 (bts D')) ∧ Below w.heap.size w w2 ∧ D'.length + (Tr.bitsOf k y').length ≤ 320 ∧ Hid (D' ++ Tr.bitsOf k y' = D ++ Tr.bitsOf k x) := by
              refine ⟨y &&& (y - 1), D2 ++ [UInt8.ofNat (64 * k + cz)], by rw [← hap.out], Nat.lt_of_le_of_lt Nat.and_le_left hy, ?_, HB1, ?_, Lib.hid ?_⟩
              · rw [bts_snoc, ec]; exact HO1
              · rw [hst.out] at hlen; simp at hlen ⊢; omega
              · rw [← HD.out, hst.out]; simp
            first
            | exact R
            | ((repeat apply Exists.intro)
               exact ⟨R, rfl⟩)
          case measure =>
            rw [hap.out]
            show (Tr.bitsOf 0 (((y &&& (y - 1) : Nat) : Int)).toNat).length < (Tr.bitsOf 0 ((y : Int)).toNat).length
            rw [Int.toNat_natCast, Int.toNat_natCast, hs0.out]
            simp
    · have hk4 : k = 4 := by omega
      subst hk4
      rw [← HM.out] at HO
      go_wp2_with fail
      go_ret
      exact ⟨_, rfl, HO, HB⟩
end Go.Proofs.YtebkaajnnjfhjaaDoor
