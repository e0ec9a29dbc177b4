/-
  internal/strconv.ftoa64 at any float64 that is neither odd nor a zero: walked.
-/
import Derived.Test.YtedllapajgcfeaaGreatDoorWe2
import Derived.Test.YtedllapajgcfeaaGreatDoorWe3
import Derived.Test.YtedllapajgcfeaaGreatDoorWe4
import Derived.Test.YtedllapajgcfeaaGreatDoorWe5
import Derived.Test.YtedllapajgcfeaaGreatDoorWc
import Derived.Test.YtedllapajgcfeaaGreatDoorTFg
import Derived.Test.YtedllapajgcfeaaGreatDoorExa
import Derived.ChangeKeysEq
import Derived.WalkSmall
namespace Go.Proofs.YtedllapajgcfeaaGreatDoor
set_option linter.unusedVariables false
set_option linter.unusedSimpArgs false
set_option exponentiation.threshold 5000
open Go.RowKit Go.Sort Go.Proofs.YtedllapajgcfeaaGreatDoorW.PrintWords

/-- What is said of it: digits d' (k of them), the point behind dp of them. -/
def txt (neg : Bool) (ds : List Int) (dp : Int) : List Int :=
  if -3 ≤ dp ∧ dp ≤ 0 then txA neg dp.natAbs ds
  else if 0 < dp ∧ dp ≤ 6 then (if dp < ds.length then txB neg dp.toNat ds else txC neg (dp.toNat - ds.length) ds)
  else txE neg (decide (0 < dp)) (dp - 1).natAbs ds
def dsL (d k : Nat) : List Int := (List.range k).map fun j => ((dc d k j : Nat) : Int)
theorem dsL_len (d k : Nat) : (dsL d k).length = k := by simp [dsL]
theorem dsL_at (d k j : Nat) (h : j < k) : (dsL d k).getD j 0 = ((dc d k j : Nat) : Int) := by simp [dsL, List.getD_eq_getElem?_getD, h]
theorem efg_any (neg : Bool) (v : Value) (base g : Nat) (ds : List Int) (k : Nat) (dp : Int) (w0 w : World) (H : St base w0 g ds v w []) (hk : ds.length = k) (hk1 : 1 ≤ k) (hk2 : k ≤ 17) (h1 : -390 ≤ dp) (h2 : dp ≤ 390) :
    Calls Tryz.prog 60 #[v, .bool neg, .slice (some ⟨g, 0, none⟩) 32 32, .int .i64 dp, .int .i64 k, .int .i64 k, .int .u8 103, .bool true] w fun e w' => ∃ v', e = .returned v' ∧ St base w0 g ds v' w' (txt neg ds dp) := by
  unfold txt
  by_cases c1 : -3 ≤ dp ∧ dp ≤ 0
  · rw [if_pos c1]
    have := efg_A neg v base g ds k dp.natAbs w0 w H hk hk1 hk2 (by omega)
    rw [show (-((dp.natAbs : Nat) : Int)) = dp from by omega] at this
    exact this
  · rw [if_neg c1]
    by_cases c2 : 0 < dp ∧ dp ≤ 6
    · rw [if_pos c2]
      by_cases c3 : dp < ds.length
      · rw [if_pos c3]
        have := efg_B neg v base g ds k dp.toNat w0 w H hk hk2 (by omega) (by omega) (by omega)
        rw [show ((dp.toNat : Nat) : Int) = dp from by omega] at this
        exact this
      · rw [if_neg c3]
        have := efg_C neg v base g ds k (dp.toNat - ds.length) w0 w H hk hk1 (by omega)
        rw [show (k : Int) + ((dp.toNat - ds.length : Nat) : Int) = dp from by omega] at this
        exact this
    · rw [if_neg c2]
      by_cases c4 : 0 < dp
      · have e : ((dp - 1).natAbs : Int) + 1 = dp := by omega
        rw [show decide (0 < dp) = true from decide_eq_true c4]
        by_cases c5 : 1 < k
        · have := efg_E1u neg v base g ds k (dp - 1).natAbs w0 w H hk c5 hk2 (by omega) (by omega)
          rw [e] at this
          exact this
        · have := efg_E0u neg v base g ds k (dp - 1).natAbs w0 w H hk (by omega) hk2 (by omega) (by omega)
          rw [e] at this
          exact this
      · have e : -((dp - 1).natAbs : Int) + 1 = dp := by omega
        rw [show decide (0 < dp) = false from decide_eq_false c4]
        by_cases c5 : 1 < k
        · have := efg_E1d neg v base g ds k (dp - 1).natAbs w0 w H hk c5 hk2 (by omega) (by omega)
          rw [e] at this
          exact this
        · have := efg_E0d neg v base g ds k (dp - 1).natAbs w0 w H hk (by omega) hk2 (by omega) (by omega)
          rw [e] at this
          exact this

/-- Length and digits of a number. -/
theorem nd_ge : ∀ d : Nat, 0 < d → 10 ^ (Lib.nDigits d - 1) ≤ d := by
  intro d
  induction d using Nat.strongRecOn with
  | _ d ih =>
    intro h0
    by_cases h : d < 10
    · rw [Lib.nDigits_small h]; exact h0
    · rw [Lib.nDigits_big h]
      have := ih (d / 10) (by omega) (by omega)
      have hp := Lib.nDigits_pos (d / 10)
      rw [show Lib.nDigits (d / 10) + 1 - 1 = Lib.nDigits (d / 10) - 1 + 1 from by omega, Nat.pow_succ]
      omega
theorem nd_le {d k : Nat} (h : d < 10 ^ k) (hk : 1 ≤ k) : Lib.nDigits d ≤ k := by
  rcases Nat.eq_zero_or_pos d with z | z
  · rw [z, Lib.nDigits_small (by omega)]; exact hk
  · have h1 := nd_ge d z
    rcases Nat.lt_or_ge k (Lib.nDigits d) with g | g
    · have : 10 ^ k ≤ 10 ^ (Lib.nDigits d - 1) := Nat.pow_le_pow_right (by omega) (by omega)
      omega
    · exact g
/-- Its bits' length, and how far it is moved to the left. -/
theorem len_of {m : Nat} (h0 : 0 < m) (h1 : m < 9007199254740992) : Lib.bitLen m ≤ 53 ∧ 1 ≤ Lib.bitLen m ∧ Sc.Zs m (64 - Lib.bitLen m) := by
  obtain ⟨a1, a2, a3⟩ := Lib.bitLenAux_bounds 64 m (by omega) (by omega)
  change 1 ≤ Lib.bitLen m at a1
  change 2 ^ (Lib.bitLen m - 1) ≤ m at a2
  change m < 2 ^ Lib.bitLen m at a3
  have hl : Lib.bitLen m ≤ 53 := by
    rcases Nat.lt_or_ge 53 (Lib.bitLen m) with g | g
    · have : 2 ^ 53 ≤ 2 ^ (Lib.bitLen m - 1) := Nat.pow_le_pow_right (by omega) (by omega)
      omega
    · exact g
  refine ⟨hl, a1, ?_, ?_⟩
  · have : 2 ^ (Lib.bitLen m - 1) * 2 ^ (64 - Lib.bitLen m) ≤ m * 2 ^ (64 - Lib.bitLen m) := Nat.mul_le_mul_right _ a2
    rwa [← Nat.pow_add, show Lib.bitLen m - 1 + (64 - Lib.bitLen m) = 63 from by omega] at this
  · have : m * 2 ^ (64 - Lib.bitLen m) < 2 ^ Lib.bitLen m * 2 ^ (64 - Lib.bitLen m) := Nat.mul_lt_mul_of_pos_right a3 (Nat.two_pow_pos _)
    rwa [← Nat.pow_add, show Lib.bitLen m + (64 - Lib.bitLen m) = 64 from by omega] at this
/-! ### the fields of a word -/
theorem i64_and2047 (n : Int) : bits .and .i64 n 2047 = n % 2048 := by
  have h127 : (BitVec.ofInt 64 2047).toNat = 2 ^ 11 - 1 := by decide
  have key : (BitVec.ofInt 64 n &&& BitVec.ofInt 64 2047).toNat = (n % ((2 ^ 64 : Nat) : Int)).toNat % 2 ^ 11 := by
    rw [BitVec.toNat_and, BitVec.toNat_ofInt, h127, Nat.and_two_pow_sub_one_eq_mod]
  show IntKind.i64.wrap ((BitVec.ofInt 64 n &&& BitVec.ofInt 64 2047).toNat : Nat) = n % 2048
  rw [key, IntKind.wrap_i64]
  omega
theorem u64_and52 (n : Nat) (h : n < 18446744073709551616) : bits .and .u64 (n : Int) 4503599627370495 = ((n % 4503599627370496 : Nat) : Int) := by
  rw [show (4503599627370495 : Int) = ((4503599627370495 : Nat) : Int) from rfl, u64_and_nat n _ h (by decide)]
  congr 1
  have := Nat.and_two_pow_sub_one_eq_mod n 52
  exact this
theorem u64_or52 (n : Nat) (h : n < 4503599627370496) : bits .or .u64 (n : Int) 4503599627370496 = ((n + 4503599627370496 : Nat) : Int) := by
  rw [show (4503599627370496 : Int) = ((4503599627370496 : Nat) : Int) from rfl, u64_or_nat n _ (by omega) (by decide)]
  congr 1
  have := Nat.two_pow_add_eq_or_of_lt (i := 52) (b := n) (by omega) 1
  rw [Nat.or_comm] at this
  rw [Nat.add_comm]
  exact this.symm
set_option maxRecDepth 100000 in
set_option maxHeartbeats 6400000 in
theorem ftoa_core (b : Nat) (neg : Bool) (x m : Nat) (E : Int) (F : Sc.Fin m E) (hx : (x = 0 ∧ m < 4503599627370496 ∧ b % 4503599627370496 = m ∧ E = -1074) ∨ (1 ≤ x ∧ x ≤ 2046 ∧ b % 4503599627370496 + 4503599627370496 = m ∧ E = (x : Int) - 1075)) (hb : b < 18446744073709551616) (hxx : b / 4503599627370496 % 2048 = x) (hn : decide (b / 9223372036854775808 ≠ 0) = neg)
    (v : Value) (base : Nat) (w0 w : World) (HO : w.ownsRow base 5 1 v 0 (nums .u8 [])) (HB : Below base w0 w) (hbase : base ≤ w.heap.size) (hT : Tb w) (hP : TabP w) :
    Calls Tryz.prog 48 #[v, .float .f64 b, .int .u8 103, .int .i64 (-1)] w fun e w' => ∃ v' d' k dp, e = .returned v' ∧ w'.ownsRow base 5 1 v' (txt neg (dsL d' k) dp).length (nums .u8 (txt neg (dsL d' k) dp)) ∧ Below base w0 w' ∧ Dig (Sc.short m (64 - Lib.bitLen m) E).1 (Lib.nDigits (Sc.short m (64 - Lib.bitLen m) E).1) d' k ∧ dp = (Lib.nDigits (Sc.short m (64 - Lib.bitLen m) E).1 : Int) + (Sc.short m (64 - Lib.bitLen m) E).2 := by
  obtain ⟨l1, l2, Z⟩ := len_of F.pos F.lt
  have f1 := F.lo
  have f2 := F.hi
  have f3 := F.lt
  have f0 := F.pos
  have hlt := own_lt HO
  have OK := Sc.short_ok F Z
  have HSH := Lib.hid (fun w' h => short_any m (64 - Lib.bitLen m) E F Z w' h)
  have H1 := Lib.hid (And.intro HO (And.intro HB (And.intro hbase (And.intro hT (And.intro hP hlt)))))
  have hlen : ∀ z, Calls Tryz.prog 61 #[.int .u64 m] z fun e w' => e = .returned (.int .i64 (Lib.bitLen m : Nat)) ∧ z = w' := fun z => (Tryz.bits_Len64 m z (by omega) (by omega)).mono (by rintro e w' ⟨rfl, rfl⟩; exact ⟨rfl, rfl⟩)
  have HL := Lib.hid hlen
  have r1 : ((b : Int) / 9223372036854775808 != 0) = neg := by rw [← hn]; by_cases g : b / 9223372036854775808 = 0 <;> simp [g] <;> omega
  have r0 := i64w ((b : Int) / 4503599627370496) (by omega) (by omega)
  have r2 : bits .and .i64 ((b : Int) / 4503599627370496) 2047 = (x : Int) := by rw [i64_and2047]; omega
  have z0 := i64w ((64 : Int) - (Lib.bitLen m : Int)) (by omega) (by omega)
  obtain ⟨z, hz⟩ : ∃ z, z = 64 - Lib.bitLen m := ⟨_, rfl⟩
  have z1 : (64 : Int) - (Lib.bitLen m : Int) = (z : Int) := by omega
  have hzl := Z.hi
  rw [← hz] at hzl HSH Z OK ⊢
  have hz11 := (Sc.zs_f F Z).1
  have hz63 := (Sc.zs_f F Z).2.1
  clear hz
  have z2 : IntKind.u64.wrap ((m : Int) * 2 ^ z) = ((m * 2 ^ z : Nat) : Int) := by
    rw [show ((m : Int) * 2 ^ z) = ((m * 2 ^ z : Nat) : Int) from by push_cast; rfl]
    exact u64w _ (by omega) (by omega)
  clear HO HB hbase hT hP hlt hlen hn
  have hP1 := OK.lo
  have hP2 := OK.hi
  have hd0 := OK.pos
  have hd1 := OK.lt
  obtain ⟨d, hd⟩ : ∃ d, d = (Sc.short m z E).1 := ⟨_, rfl⟩
  obtain ⟨P, hPP⟩ : ∃ P, P = (Sc.short m z E).2 := ⟨_, rfl⟩
  rw [← hd] at HSH hd0 hd1 ⊢
  rw [← hPP] at HSH hP1 hP2 ⊢
  clear OK hd hPP
  have n17 : Lib.nDigits d ≤ 17 := nd_le (by omega) (by omega)
  have n1 := Lib.nDigits_pos d
  have nlt := Lib.lt_pow_nDigits d
  have nge := nd_ge d hd0
  have hnum : ∀ y, Tb y → Calls Tryz.prog 64 #[.int .u64 d] y fun e w' => e = .returned (.int .i64 (Lib.nDigits d : Nat)) ∧ y = w' := fun y hy => (Tryz.internal_strconv_numDigits d (by omega) (by omega) y hy.tab).mono (by rintro e w' ⟨rfl, rfl⟩; exact ⟨rfl, rfl⟩)
  have HN := Lib.hid hnum
  have HD := Lib.hid (fun y g hH => setD_any g d (Lib.nDigits d) P n1 (by omega) nlt nge (by omega) ⟨by omega, by omega⟩ y hH)
  have HG0 := Lib.hid (And.intro n1 (And.intro n17 (And.intro hP1 hP2)))
  clear hnum n1 nlt nge
  rcases hx with ⟨hx0, hm, hf, hE⟩ | ⟨hx1, hx2, hf, hE⟩
  · subst hx0
    have r3 : bits .and .u64 (b : Int) 4503599627370495 = (m : Int) := by rw [u64_and52 b hb, hf]
    have t3 : ((m : Int) == 0) = false := by simp; omega
    have e2 := i64w (-1022 - (z : Int)) (by omega) (by omega)
    have e3 := i64w (-1022 - (z : Int) - 52) (by omega) (by omega)
    rw [show E - (z : Int) = -1022 - (z : Int) - 52 from by omega] at HSH
    clear hb
    go_enter Tryz.func48, Tryz.ntmps48
    go_wp2_with fail
    go_quiet (fail)
    go_wp2_with fail
    refine (HL.out _).mono ?_
    rintro e w1 ⟨rfl, rfl⟩
    go_wp2_with fail
    obtain ⟨W0, hW0⟩ : ∃ W0, W0 = (w.drewN nq).alloc (.cells buf0 85) := ⟨_, rfl⟩
    change Calls _ _ _ ((w.drewN nq).alloc (.cells buf0 85)) _
    rw [← hW0]
    have hBw : Below w.heap.size w W0 := by rw [hW0]; exact (bl_drewN (Below.refl _ _) nq).alloc (Nat.le_refl _) _
    have hk : W0.heap[w.heap.size]? = some (.cells buf0 85 (0, 0)) := by rw [hW0]; exact blk_new_at' _ _ _ rfl
    clear hW0
    refine (HSH.out _ (H1.out.2.2.2.2.1.below hBw)).mono ?_
    rintro e w2 ⟨rfl, B2⟩
    have hk2 := blk_below hk B2
    have hs0 := hBw.size
    have hB2 : Below w.heap.size w w2 := hBw.trans (B2.mono hs0)
    have hTd : Tb w2.drew := H1.out.2.2.2.1.below (Below.drew hB2)
    have hHd : Holds (fun (b : UInt8) => Value.int .u8 (b.toNat : Int)) w2.drew w.heap.size 0 (digZ (Lib.nDigits d)) := holds_bufN (by have := HG0.out.2.1; omega) hk2
    have hg3 : 10 < w.heap.size := H1.out.2.2.2.1.pow.2.2
    have HTd := Lib.hid hTd
    have HHd := Lib.hid hHd
    have HG3 := Lib.hid hg3
    have HB2 := Lib.hid hB2
    have HK2 := Lib.hid (blk_lt hk2)
    clear hBw hk B2 hk2 hs0 hB2 hTd hHd hg3
    go_wp2_with fail
    go_region_held3 (fun x => Tb x) (first | exact HTd.out | assumption | exact HTd.out.belowG ‹_› HG3.out (Below.size ‹_›)) ((first | (go_at_call 64; refine (HN.out _ HTd.out).mono ?_; rintro e w3 ⟨rfl, rfl⟩) | (go_at_call 63; refine (HD.out _ _ HHd.out).mono ?_; rintro e w4 ⟨d', k, HG, rfl, C0, B4⟩)))
    all_goals
      have HC0 := Lib.hid C0
      have HB4 := Lib.hid B4
      have HGG := Lib.hid HG
      clear C0 B4 HG
      go_wp2_with fail
      have hb4 := HB4.out
      have hw4 : Below base w w4 := (HB2.out.mono H1.out.2.2.1).trans ((Below.drew (Below.refl base w2)).trans (hb4.mono H1.out.2.2.1))
      have hO2 := pw_own_below H1.out.1 HB2.out
      have hO4 : w4.ownsRow base 5 1 v 0 (nums .u8 []) := own_move hO2 fun k hk => hb4.block k (H1.out.2.2.2.2.2 k hk)
      have hlt4 : w.heap.size < w4.heap.size := Nat.lt_of_lt_of_le HK2.out hb4.size
      have hS : St base w0 w.heap.size (dsL d' k) v w4 [] := ⟨hO4, H1.out.2.1.trans hw4, Nat.le_trans H1.out.2.2.1 (Nat.le_of_lt hlt4), hlt4, fun e => Nat.lt_irrefl _ (H1.out.2.2.2.2.2 _ e), fun j hj => by rw [dsL_len] at hj; rw [dsL_at _ _ _ hj]; exact HC0.out j hj, by simp⟩
      have hkn := HGG.out.kn
      refine (efg_any neg v base w.heap.size (dsL d' k) k ((Lib.nDigits d : Int) + P) w0 w4 hS (dsL_len _ _) HGG.out.k1 (by omega) (by omega) (by omega)).mono ?_
      rintro e w5 ⟨v', rfl, S5⟩
      have HS5 := Lib.hid S5
      clear S5
      go_wp2_with fail
      go_ret
      exact ⟨v', d', k, _, rfl, HS5.out.own, HS5.out.bel, HGG.out, rfl⟩
  · have r3 : bits .and .u64 (b : Int) 4503599627370495 = (b : Int) % 4503599627370496 := by rw [u64_and52 b hb]; omega
    have r4 : bits .or .u64 ((b : Int) % 4503599627370496) 4503599627370496 = (m : Int) := by
      rw [show (b : Int) % 4503599627370496 = ((b % 4503599627370496 : Nat) : Int) from by omega, u64_or52 _ (by omega), hf]
    have t1 : ((x : Int) == 2047) = false := by simp; omega
    have t2 : ((x : Int) == 0) = false := by simp; omega
    have t3 : ((m : Int) == 0) = false := by simp; omega
    have e1 := i64w ((x : Int) + -1023) (by omega) (by omega)
    have e2 := i64w ((x : Int) + -1023 - (z : Int)) (by omega) (by omega)
    have e3 := i64w ((x : Int) + -1023 - (z : Int) - 52) (by omega) (by omega)
    rw [show E - (z : Int) = (x : Int) + -1023 - (z : Int) - 52 from by omega] at HSH
    clear hb
    go_enter Tryz.func48, Tryz.ntmps48
    go_wp2_with fail
    go_quiet (fail)
    go_wp2_with fail
    refine (HL.out _).mono ?_
    rintro e w1 ⟨rfl, rfl⟩
    go_wp2_with fail
    obtain ⟨W0, hW0⟩ : ∃ W0, W0 = (w.drewN nq).alloc (.cells buf0 85) := ⟨_, rfl⟩
    change Calls _ _ _ ((w.drewN nq).alloc (.cells buf0 85)) _
    rw [← hW0]
    have hBw : Below w.heap.size w W0 := by rw [hW0]; exact (bl_drewN (Below.refl _ _) nq).alloc (Nat.le_refl _) _
    have hk : W0.heap[w.heap.size]? = some (.cells buf0 85 (0, 0)) := by rw [hW0]; exact blk_new_at' _ _ _ rfl
    clear hW0
    refine (HSH.out _ (H1.out.2.2.2.2.1.below hBw)).mono ?_
    rintro e w2 ⟨rfl, B2⟩
    have hk2 := blk_below hk B2
    have hs0 := hBw.size
    have hB2 : Below w.heap.size w w2 := hBw.trans (B2.mono hs0)
    have hTd : Tb w2.drew := H1.out.2.2.2.1.below (Below.drew hB2)
    have hHd : Holds (fun (b : UInt8) => Value.int .u8 (b.toNat : Int)) w2.drew w.heap.size 0 (digZ (Lib.nDigits d)) := holds_bufN (by have := HG0.out.2.1; omega) hk2
    have hg3 : 10 < w.heap.size := H1.out.2.2.2.1.pow.2.2
    have HTd := Lib.hid hTd
    have HHd := Lib.hid hHd
    have HG3 := Lib.hid hg3
    have HB2 := Lib.hid hB2
    have HK2 := Lib.hid (blk_lt hk2)
    clear hBw hk B2 hk2 hs0 hB2 hTd hHd hg3
    go_wp2_with fail
    go_region_held3 (fun x => Tb x) (first | exact HTd.out | assumption | exact HTd.out.belowG ‹_› HG3.out (Below.size ‹_›)) ((first | (go_at_call 64; refine (HN.out _ HTd.out).mono ?_; rintro e w3 ⟨rfl, rfl⟩) | (go_at_call 63; refine (HD.out _ _ HHd.out).mono ?_; rintro e w4 ⟨d', k, HG, rfl, C0, B4⟩)))
    all_goals
      have HC0 := Lib.hid C0
      have HB4 := Lib.hid B4
      have HGG := Lib.hid HG
      clear C0 B4 HG
      go_wp2_with fail
      have hb4 := HB4.out
      have hw4 : Below base w w4 := (HB2.out.mono H1.out.2.2.1).trans ((Below.drew (Below.refl base w2)).trans (hb4.mono H1.out.2.2.1))
      have hO2 := pw_own_below H1.out.1 HB2.out
      have hO4 : w4.ownsRow base 5 1 v 0 (nums .u8 []) := own_move hO2 fun k hk => hb4.block k (H1.out.2.2.2.2.2 k hk)
      have hlt4 : w.heap.size < w4.heap.size := Nat.lt_of_lt_of_le HK2.out hb4.size
      have hS : St base w0 w.heap.size (dsL d' k) v w4 [] := ⟨hO4, H1.out.2.1.trans hw4, Nat.le_trans H1.out.2.2.1 (Nat.le_of_lt hlt4), hlt4, fun e => Nat.lt_irrefl _ (H1.out.2.2.2.2.2 _ e), fun j hj => by rw [dsL_len] at hj; rw [dsL_at _ _ _ hj]; exact HC0.out j hj, by simp⟩
      have hkn := HGG.out.kn
      refine (efg_any neg v base w.heap.size (dsL d' k) k ((Lib.nDigits d : Int) + P) w0 w4 hS (dsL_len _ _) HGG.out.k1 (by omega) (by omega) (by omega)).mono ?_
      rintro e w5 ⟨v', rfl, S5⟩
      have HS5 := Lib.hid S5
      clear S5
      go_wp2_with fail
      go_ret
      exact ⟨v', d', k, _, rfl, HS5.out.own, HS5.out.bel, HGG.out, rfl⟩
end Go.Proofs.YtedllapajgcfeaaGreatDoor
