/-
  internal/strconv.setDigits at any number of at most 17 digits: its digits, of which the zeros at the end are struck.
-/
import Derived.Test.YtedllapajgcfeaaGreatDoorWb
import Derived.Test.YtedllapajgcfeaaGreatDoorTFg
import Derived.Lib.OwnBridge
namespace Go.Proofs.YtedllapajgcfeaaGreatDoor
set_option linter.unusedVariables false
set_option linter.unusedSimpArgs false
open Go.RowKit Go.Sort Go.Lib Go.Proofs.YtedllapajgcfeaaGreatDoorW.PrintWords

/-- The character of digit j of d's n digits. -/
def dc (d n j : Nat) : Nat := 48 + d / 10 ^ (n - 1 - j) % 10
theorem dg_nat (d j : Nat) : ((dg d j).toNat : Int) = ((48 + d / 10 ^ j % 10 : Nat) : Int) := by
  unfold dg
  have : d / 10 ^ j % 10 < 10 := Nat.mod_lt _ (by decide)
  rw [UInt8.toNat_ofNat']
  congr 1
  omega
def digZ (n : Nat) : Array UInt8 := Array.replicate n 0
theorem buf_atN (j : Nat) (h : j < 32) : buf0[j]? = some (.int .u8 0) := by
  have : ∀ j : Fin 32, buf0[j.val]? = some (.int .u8 0) := by
    intro j
    obtain ⟨j, hj⟩ := j
    rcases (by omega : j = 0 ∨ j = 1 ∨ j = 2 ∨ j = 3 ∨ j = 4 ∨ j = 5 ∨ j = 6 ∨ j = 7 ∨ j = 8 ∨ j = 9 ∨ j = 10 ∨ j = 11 ∨ j = 12 ∨ j = 13 ∨ j = 14 ∨ j = 15 ∨ j = 16 ∨ j = 17 ∨ j = 18 ∨ j = 19 ∨ j = 20 ∨ j = 21 ∨ j = 22 ∨ j = 23 ∨ j = 24 ∨ j = 25 ∨ j = 26 ∨ j = 27 ∨ j = 28 ∨ j = 29 ∨ j = 30 ∨ j = 31) with rfl | rfl | rfl | rfl | rfl | rfl | rfl | rfl | rfl | rfl | rfl | rfl | rfl | rfl | rfl | rfl | rfl | rfl | rfl | rfl | rfl | rfl | rfl | rfl | rfl | rfl | rfl | rfl | rfl | rfl | rfl | rfl <;> rfl
  exact this ⟨j, h⟩
theorem holds_bufN {z : World} {g n : Nat} (hn : n ≤ 32) (h : z.heap[g]? = some (.cells buf0 85 (0, 0))) : Holds (fun (b : UInt8) => Value.int .u8 (b.toNat : Int)) z g 0 (digZ n) := by
  intro j hj
  have h16 : j < n := by simpa [digZ] using hj
  rw [Nat.zero_add]
  refine ⟨(blk_cell h j).trans ?_, blk_frozen h j⟩
  rw [buf_atN j (by omega)]
  have : (digZ n)[j]! = 0 := by simp [digZ, h16]
  rw [this]
  rfl
theorem fmt_any (g d n : Nat) (hn : n ≤ 32) (hd : d < 10 ^ n) (hd64 : d < 18446744073709551616) (w : World) (hH : Holds (fun (b : UInt8) => Value.int .u8 (b.toNat : Int)) w g 0 (digZ n)) : Calls Tryz.prog 105 #[.slice (some ⟨g, 0, none⟩) n 32, .int .u64 d] w fun e w' => e = .returned (.tuple #[]) ∧ (∀ j, j < n → w'.cell? ⟨g, j, none⟩ = some (.int .u8 (dc d n j : Nat))) ∧ Below g w w' := by
  have hz : (digZ n).size = n := by simp [digZ]
  have := Tryz.internal_strconv_formatBase10 g 0 32 d (digZ n) w hH (by rw [hz]; exact hd) hd64 (by rw [hz]; omega)
  rw [hz] at this
  refine Calls.mono this ?_
  rintro e w' ⟨rfl, q, v', dk, rfl, hF⟩
  have hs : dk.size = (digZ n).size := by rw [hF.size, hz]
  have hc := fun j (hj : j < n) => cell?_putRow (fun (b : UInt8) => Value.int .u8 (b.toNat : Int)) w g 0 (digZ n) dk hH hs j (by rw [hs, hz]; exact hj)
  refine ⟨rfl, ?_, below_putRow (q := q) (Below.refl g w) (Nat.le_refl g)⟩
  intro j hj
  have := hc j hj
  rw [Nat.zero_add] at this
  refine Eq.trans this ?_
  rw [hF.done j (Nat.zero_le _) hj]
  show some (Value.int .u8 ((dg d (n - 1 - j)).toNat : Int)) = _
  rw [dg_nat]; rfl
/-- What setDigits leaves: d is d' and zeros. -/
structure Dig (d n d' k : Nat) : Prop where
  k1 : 1 ≤ k
  kn : k ≤ n
  eq : d = d' * 10 ^ (n - k)
  nz : d' % 10 ≠ 0
  lt : d' < 10 ^ k
  ge : 10 ^ (k - 1) ≤ d'
theorem dc_cut {d n d' k : Nat} (h : Dig d n d' k) (j : Nat) (hj : j < k) : dc d n j = dc d' k j := by
  have := h.kn
  unfold dc
  rw [h.eq, show n - 1 - j = (n - k) + (k - 1 - j) from by omega, Nat.pow_add, ← Nat.div_div_eq_div_mul, Nat.mul_div_cancel _ (Nat.pow_pos (by omega))]
theorem dig_of {d n k : Nat} (h1 : 1 ≤ k) (h2 : k ≤ n) (hd : d < 10 ^ n) (hl : 10 ^ (n - 1) ≤ d) (hz : d % 10 ^ (n - k) = 0) (hn : d / 10 ^ (n - k) % 10 ≠ 0) : Dig d n (d / 10 ^ (n - k)) k := by
  have hp : 0 < 10 ^ (n - k) := Nat.pow_pos (by omega)
  refine ⟨h1, h2, (Nat.div_mul_cancel (Nat.dvd_of_mod_eq_zero hz)).symm, hn, ?_, ?_⟩
  · refine Nat.div_lt_of_lt_mul ?_
    rw [← Nat.pow_add, show n - k + k = n from by omega]
    exact hd
  · rw [Nat.le_div_iff_mul_le hp, ← Nat.pow_add, show k - 1 + (n - k) = n - 1 from by omega]
    exact hl
set_option maxHeartbeats 1600000 in
theorem setD_any (g d n : Nat) (P : Int) (hn0 : 1 ≤ n) (hn : n ≤ 20) (hd : d < 10 ^ n) (hl : 10 ^ (n - 1) ≤ d) (hd64 : d < 18446744073709551616) (hP : -1000 ≤ P ∧ P ≤ 1000) (w : World) (hH : Holds (fun (b : UInt8) => Value.int .u8 (b.toNat : Int)) w g 0 (digZ n)) :
    Calls Tryz.prog 63 #[.slice (some ⟨g, 0, none⟩) 32 32, .int .u64 d, .int .i64 P, .int .i64 n] w fun e w' => ∃ d' k, Dig d n d' k ∧ e = .returned (.tuple #[.int .i64 (n + P), .int .i64 k]) ∧ (∀ j, j < k → w'.cell? ⟨g, j, none⟩ = some (.int .u8 (dc d' k j : Nat))) ∧ Below g w w' := by
  have HF := Lib.hid (fmt_any g d n (by omega) hd hd64 w hH)
  have HD := Lib.hid (And.intro hd hl)
  obtain ⟨hP1, hP2⟩ := hP
  clear hH hd hl
  have a1 := i64w ((n : Int) + P) (by omega) (by omega)
  have a2 : decide ((n : Int) ≤ 32) = true := by simp; omega
  have i0 : (n : Int) ≤ 32 := by omega
  go_enter Tryz.func63, Tryz.ntmps63
  go_wp2_with fail
  refine (HF.out).mono ?_
  rintro e w1 ⟨rfl, C1, B1⟩
  replace C1 := Lib.hid C1
  replace B1 := Lib.hid B1
  clear HF
  go_wp2_with fail
  go_loopw [3] (fun i wr => ∃ k : Nat, k < n ∧ i = .int .i64 (k + 1) ∧ d % 10 ^ (n - (k + 1)) = 0 ∧ wr = w1) (fun i _ => (RowKit.intOf i).toNat)
  case atStart => exact ⟨n - 1, by omega, by congr 1; omega, by rw [show n - (n - 1 + 1) = 0 from by omega, Nat.pow_zero, Nat.mod_one], rfl⟩
  case round =>
    obtain ⟨k, hk, rfl, hz, rfl⟩ := hrel
    have hZ := Lib.hid hz
    clear hz
    have i1 : (0 : Int) ≤ (k : Int) := by omega
    have i2 : (k : Int) < 32 := by omega
    have i3 : (0 : Int) < (k : Int) + 1 := by omega
    have i4 : (k : Int) + 1 ≤ n := by omega
    have C := C1.out k hk
    have hlt : d / 10 ^ (n - 1 - k) % 10 < 10 := Nat.mod_lt _ (by decide)
    by_cases h0 : d / 10 ^ (n - 1 - k) % 10 = 0
    · have e48 : dc d n k = 48 := by unfold dc; omega
      rw [e48] at C
      have hk0 : k ≠ 0 := by
        intro e
        subst e
        have h1 := HD.out.1
        have h2 := HD.out.2
        rw [Nat.sub_zero] at h0
        have g1 : 1 ≤ d / 10 ^ (n - 1) := (Nat.le_div_iff_mul_le (Nat.pow_pos (by omega))).2 (by omega)
        have g2 : d / 10 ^ (n - 1) < 10 := Nat.div_lt_of_lt_mul (by rw [← Nat.pow_succ, show (n - 1).succ = n from by omega]; exact h1)
        omega
      obtain ⟨m, rfl⟩ : ∃ m, k = m + 1 := ⟨k - 1, by omega⟩
      have hz2 : d % 10 ^ (n - (m + 1)) = 0 := by
        have e1 : 10 ^ (n - (m + 1)) = 10 ^ (n - (m + 1 + 1)) * 10 := by rw [← Nat.pow_succ]; congr 1; omega
        rw [e1, Nat.mod_mul, hZ.out, show n - (m + 1 + 1) = n - 1 - (m + 1) from by omega, h0, Nat.mul_zero]
      have HZ2 := Lib.hid hz2
      clear hz2 h0 hlt e48
      go_wp2_with fail
      go_roundw
      case rel => exact ⟨m, by omega, by go_num, HZ2.out, trivial⟩
      case measure => simp [RowKit.intOf] <;> omega
    · have hne : ((dc d n k : Nat) : Int) ≠ 48 := by unfold dc; omega
      have h3 : (((dc d n k : Nat) : Int) == 48) = false := by simp; omega
      have HG := dig_of (k := k + 1) (by omega) (by omega) HD.out.1 HD.out.2 hZ.out (by rw [show n - (k + 1) = n - 1 - k from by omega]; exact h0)
      have HG := Lib.hid HG
      clear h0 hlt hne
      go_wp2_with fail
      go_ret2
      refine ⟨_, k + 1, HG.out, rfl, fun j hj => ?_, B1.out⟩
      rw [C1.out j (by omega), dc_cut HG.out j hj]
end Go.Proofs.YtedllapajgcfeaaGreatDoor
