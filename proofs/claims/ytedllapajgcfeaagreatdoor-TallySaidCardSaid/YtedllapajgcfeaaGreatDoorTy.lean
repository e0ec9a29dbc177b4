/-
  What is said of a float64 is read as it. No program in sight.
-/
import Derived.Test.YtedllapajgcfeaaGreatDoorTx
import Derived.Test.YtedllapajgcfeaaGreatDoorRe
namespace Go.Proofs.YtedllapajgcfeaaGreatDoor
set_option linter.unusedVariables false
set_option linter.unusedSimpArgs false
set_option exponentiation.threshold 5000
set_option maxRecDepth 20000
open Rf

def tb (xs : List Int) : List UInt8 := xs.map fun n => UInt8.ofNat n.toNat
theorem tb_str (xs : List Int) : Go.strOfNums xs = ⟨(tb xs).toArray⟩ := rfl
theorem tb_app (a b : List Int) : tb (a ++ b) = tb a ++ tb b := List.map_append
theorem tb_ds (d k : Nat) : tb (dsL d k) = chs d k := by
  unfold tb dsL chs
  rw [List.map_map]
  rfl
theorem tb_zs (n : Nat) : tb (zs n) = zc n := by
  unfold tb zs zc
  rw [List.map_replicate]
  rfl
theorem tb_sg (neg : Bool) : tb (sgT neg) = sgB neg := by cases neg <;> rfl
theorem tb_take (xs : List Int) (n : Nat) : tb (xs.take n) = (tb xs).take n := List.map_take
theorem tb_drop (xs : List Int) (n : Nat) : tb (xs.drop n) = (tb xs).drop n := List.map_drop
theorem tb_dc (n : Nat) (h : n < 10) : UInt8.ofNat ((48 + n : Nat) : Int).toNat = UInt8.ofNat (48 + n) := rfl
def exs (n : Nat) : List UInt8 := tb (exT n)
theorem o8 (n : Nat) (h : n < 10) : (UInt8.ofNat (48 + n)).toNat = 48 + n := by rw [UInt8.toNat_ofNat']; omega
theorem exs_ok : ∀ n, n ≤ 400 → ∀ up, Xe up (exs n) ∧ ev (exs n) = n := by
  have key : ∀ n : Fin 401, (2 ≤ (exs n.val).length ∧ (exs n.val).length ≤ 3 ∧ (exs n.val).all (fun c => decide (Dg c)) = true) ∧ ev (exs n.val) = n.val := by decide +kernel
  intro n hn up
  obtain ⟨⟨h1, h2, h3⟩, h4⟩ := key ⟨n, by omega⟩
  refine ⟨⟨h1, h2, fun j hj => ?_⟩, h4⟩
  have := List.all_eq_true.1 h3 _ (List.getElem_mem hj)
  simpa using this

/-! ### the number's size -/
theorem wv_pow (d t : Nat) (P : Int) (h : -400 ≤ P) : Sc.wv d (P + t) = Sc.wv (d * 10 ^ t) P := by
  unfold Sc.wv Sc.ten
  rw [show (P + (t : Int) + 400).toNat = (P + 400).toNat + t from by omega, Nat.pow_add]
  generalize (2 : Nat) ^ 1400 = G
  grind
theorem top_lt : Sc.N 18014398509481984 970 < Sc.wv 1 311 := by decide +kernel
theorem in_le {m : Nat} {E : Int} (F : Sc.Fin m E) {a : Nat} {Q : Int} (ha : 0 < a) (h : Sc.In m E a Q) : Q ≤ 310 := by
  rcases Int.lt_or_le 310 Q with g | g
  · exfalso
    have f1 := F.lt
    have f2 := F.hi
    have f3 := F.lo
    have hup : Sc.wv a Q ≤ Sc.N (2 * m + 1) (E - 1) := by
      have := h.2
      split at this
      · exact this
      · exact Nat.le_of_lt this
    have h1 : Sc.N (2 * m + 1) (E - 1) ≤ Sc.N 18014398509481984 970 := by
      obtain ⟨j, hj⟩ : ∃ j : Nat, (970 : Int) = E - 1 + j := ⟨(970 - (E - 1)).toNat, by omega⟩
      rw [hj, Sc.N_up _ _ _ (by omega)]
      have : 18014398509481984 * 1 ≤ 18014398509481984 * 2 ^ j := Nat.mul_le_mul_left _ (Nat.two_pow_pos j)
      exact Sc.N_mono _ (by omega)
    have h2 : Sc.wv 1 311 ≤ Sc.wv a Q := by
      obtain ⟨t, rfl⟩ : ∃ t : Nat, Q = 311 + t := ⟨(Q - 311).toNat, by omega⟩
      rw [wv_pow _ _ _ (by omega)]
      unfold Sc.wv
      exact Nat.mul_le_mul_right _ (Nat.mul_le_mul_right _ (Nat.mul_pos ha (Nat.pow_pos (by omega))))
    have := top_lt
    omega
  · exact g
theorem in_wv {m : Nat} {E : Int} {a b : Nat} {P Q : Int} (e : Sc.wv a P = Sc.wv b Q) (h : Sc.In m E a P) : Sc.In m E b Q := by
  unfold Sc.In at *
  rw [← e]
  exact h
theorem ch_ne (d k : Nat) (N : Nm d k) : ch d k 0 ≠ 48 := by
  intro e
  have h1 := ch_nat d k 0
  have h2 := nm_top N
  rw [e] at h1
  unfold dc at h1
  rw [show k - 1 - 0 = k - 1 from by omega] at h1
  have : (48 : UInt8).toNat = 48 := rfl
  omega
/-- The first character of digits is no zero. -/
theorem fst_C {d k : Nat} (N : Nm d k) (r : List UInt8) : ∃ t, chs d k ++ r = ch d k 0 :: t := by
  have hk := N.k1
  obtain ⟨q, rfl⟩ : ∃ q, k = q + 1 := ⟨k - 1, by omega⟩
  unfold chs
  rw [List.range_succ_eq_map, List.map_cons]
  exact ⟨_, rfl⟩
theorem fst_dg (d k j : Nat) : Dg (ch d k j) := by unfold Dg; rw [ch_nat]; exact dc_bd d k j
theorem tx_of {neg : Bool} {m : Nat} {E : Int} (F : Sc.Fin m E) {M : List UInt8} {X : Option (Bool × List UInt8)} {mm nn : Nat} {dd : Int} {dot : Bool} {l : List UInt8} (hm : Mt M) (h0 : (∃ t, M = 48 :: 46 :: t) ∨ ∃ c t, M = c :: t ∧ Dg c ∧ c ≠ 48)
    (hr : rd M = ⟨mm, nn, dd, dot, true⟩) (hX : ∀ up ex, X = some (up, ex) → Xe up ex) (hl : l = sgB neg ++ M ++ xT X) (hmm : 0 < mm) (hmm2 : mm < 2 ^ 57) (hQ : -345 ≤ expOf ⟨mm, nn, dd, dot, true⟩ (xV X)) (hI : Sc.In m E mm (expOf ⟨mm, nn, dd, dot, true⟩ (xV X))) : Tx neg l (Sc.rg m E) := by
  refine ⟨M, X, hm, ?_, ?_, by rw [hr], ?_, ?_, hl, Or.inr ⟨m, E, F, rfl, ?_⟩⟩
  · rcases h0 with ⟨t, rfl⟩ | ⟨c, t, rfl, _⟩ <;> simp
  · intro up ex h
    exact ⟨hX up ex h, by rw [hr]; exact Nat.ne_of_gt hmm⟩
  · intro h e
    rcases h0 with ⟨t, rfl⟩ | ⟨c, t, rfl, h1, h2⟩
    · exact Or.inr ⟨by simp, rfl⟩
    · exact absurd e h2
  · intro h
    rcases h0 with ⟨t, rfl⟩ | ⟨c, t, rfl, h1, h2⟩
    · show Dg 48
      decide
    · exact h1
  · rw [hr]
    exact ⟨hmm, hmm2, hQ, in_le F hmm hI, hI⟩
theorem tx_fin (neg : Bool) {m : Nat} {E : Int} (F : Sc.Fin m E) {a k : Nat} {dp : Int} (S : Sd m E a k dp) : Tx neg (tb (txt neg (dsL a k) dp)) (Sc.rg m E) := by
  obtain ⟨l1, l2, Z⟩ := len_of F.pos F.lt
  have OK := Sc.short_ok F Z
  have D := S.dig
  have hdp := S.dp
  have n17 : Lib.nDigits (Sc.short m (64 - Lib.bitLen m) E).1 ≤ 17 := nd_le (by have := OK.lt; omega) (by omega)
  have hkn := D.kn
  have N : Nm a k := ⟨D.k1, by omega, D.lt, D.ge⟩
  have ha : 0 < a := by have := D.nz; omega
  have hP1 := OK.lo
  have hP2 := OK.hi
  have hI : Sc.In m E a (dp - k) := by
    refine in_wv ?_ OK.inn
    have e2 : Sc.wv (Sc.short m (64 - Lib.bitLen m) E).1 (Sc.short m (64 - Lib.bitLen m) E).2 = Sc.wv (a * 10 ^ (Lib.nDigits (Sc.short m (64 - Lib.bitLen m) E).1 - k)) (Sc.short m (64 - Lib.bitLen m) E).2 := congrArg (fun x => Sc.wv x (Sc.short m (64 - Lib.bitLen m) E).2) D.eq
    rw [e2, ← wv_pow a _ _ (by omega)]
    congr 1
    omega
  have hQ : -345 ≤ dp - k := by omega
  have hQ2 := in_le F ha hI
  have ha57 : a < 2 ^ 57 := by
    have h1 := N.lt
    have h2 : 10 ^ k ≤ 10 ^ 17 := Nat.pow_le_pow_right (by omega) N.k2
    omega
  have hk1 := N.k1
  have hk2 := N.k2
  clear OK D S hdp hP1 hP2 Z n17 hkn
  unfold txt
  split
  · -- 0.000ddd
    rename_i c
    obtain ⟨z, rfl⟩ : ∃ z : Nat, dp = -(z : Int) := ⟨dp.natAbs, by omega⟩
    have hz : (-(z : Int)).natAbs = z := by omega
    rw [hz]
    have e : expOf ⟨a, k, -(z : Int), true, true⟩ (xV none) = -(z : Int) - k := by unfold expOf xV; rw [if_neg (by show a ≠ 0; omega)]; simp
    refine tx_of F (mt_A N z (by omega)) (Or.inl ⟨zc z ++ chs a k, rfl⟩) (rd_A N z) (X := none) (fun _ _ h => by cases h) ?_ ha ha57 (by rw [e]; exact hQ) (by rw [e]; exact hI)
    unfold txA mA xT
    rw [tb_app, tb_app, tb_app, tb_app, tb_sg, tb_zs, tb_ds]
    simp [tb]
  · split
    · rename_i c1 c2
      obtain ⟨p, rfl⟩ : ∃ p : Nat, dp = (p : Int) := ⟨dp.toNat, by omega⟩
      rw [dsL_len]
      split
      · rename_i c3
        have e : expOf ⟨a, k, (p : Int), true, true⟩ (xV none) = (p : Int) - k := by unfold expOf xV; rw [if_neg (by show a ≠ 0; omega)]; simp
        refine tx_of F (mt_B N p (by omega) (by omega)) (Or.inr ?_) (rd_B N p (by omega) (by omega)) (X := none) (fun _ _ h => by cases h) ?_ ha ha57 (by rw [e]; exact hQ) (by rw [e]; exact hI)
        · obtain ⟨t, ht⟩ := fst_C N []
          rw [List.append_nil] at ht
          refine ⟨ch a k 0, t.take (p - 1) ++ 46 :: (chs a k).drop p, ?_, fst_dg a k 0, ch_ne a k N⟩
          unfold mB
          rw [ht, show p = p - 1 + 1 from by omega, List.take_succ_cons]
          simp
        · unfold txB mB xT
          rw [tb_app, tb_app, tb_app, tb_sg, tb_take, tb_drop, tb_ds, Int.toNat_natCast]
          simp [tb]
      · rename_i c3
        obtain ⟨z, rfl⟩ : ∃ z, p = k + z := ⟨p - k, by omega⟩
        rw [Int.toNat_natCast, show k + z - k = z from by omega]
        have e : expOf ⟨a * 10 ^ z, k + z, 0, false, true⟩ (xV none) = 0 := by
          unfold expOf xV
          have : 0 < a * 10 ^ z := Nat.mul_pos ha (Nat.pow_pos (by omega))
          rw [if_neg (by show a * 10 ^ z ≠ 0; omega)]
          simp
        have hmm2 : a * 10 ^ z < 2 ^ 57 := by
          have h1 : a * 10 ^ z < 10 ^ k * 10 ^ z := Nat.mul_lt_mul_of_pos_right N.lt (Nat.pow_pos (by omega))
          rw [← Nat.pow_add] at h1
          have h2 : 10 ^ (k + z) ≤ 10 ^ 6 := Nat.pow_le_pow_right (by omega) (by omega)
          omega
        refine tx_of F (mt_C N z (by omega)) (Or.inr ?_) (rd_C N z) (X := none) (fun _ _ h => by cases h) ?_ (Nat.mul_pos ha (Nat.pow_pos (by omega))) hmm2 (by rw [e]; decide) ?_
        · obtain ⟨t, ht⟩ := fst_C N (zc z)
          exact ⟨_, t, ht, fst_dg a k 0, ch_ne a k N⟩
        · unfold txC mC xT
          rw [tb_app, tb_app, tb_sg, tb_zs, tb_ds]
          simp
        · rw [e]
          refine in_wv ?_ hI
          rw [show ((k + z : Nat) : Int) - (k : Int) = 0 + (z : Int) from by omega, wv_pow a z 0 (by omega)]
    · rename_i c1 c2
      have hx : (dp - 1).natAbs ≤ 400 := by omega
      obtain ⟨x1, x2⟩ := exs_ok (dp - 1).natAbs hx (decide (0 < dp))
      have hxv : xV (some (decide (0 < dp), exs (dp - 1).natAbs)) = dp - 1 := by
        unfold xV
        dsimp only
        rw [x2]
        by_cases g : 0 < dp
        · simp [g]; omega
        · simp [g]; omega
      have hXX : ∀ up ex, some (decide (0 < dp), exs (dp - 1).natAbs) = some (up, ex) → Xe up ex := by
        intro up ex h
        injection h with h
        injection h with h1 h2
        rw [← h1, ← h2]
        exact x1
      by_cases ck : 1 < k
      · have e : expOf ⟨a, k, ((1 : Nat) : Int), true, true⟩ (xV (some (decide (0 < dp), exs (dp - 1).natAbs))) = dp - k := by
          rw [hxv]
          unfold expOf
          rw [if_neg (by show a ≠ 0; omega)]
          simp
          omega
        refine tx_of F (mt_B N 1 (by omega) (by omega)) (Or.inr ?_) (rd_B N 1 (by omega) (by omega)) (X := some (decide (0 < dp), exs (dp - 1).natAbs)) hXX ?_ ha ha57 (by rw [e]; exact hQ) (by rw [e]; exact hI)
        · obtain ⟨t, ht⟩ := fst_C N []
          rw [List.append_nil] at ht
          refine ⟨ch a k 0, 46 :: (chs a k).drop 1, ?_, fst_dg a k 0, ch_ne a k N⟩
          unfold mB
          rw [ht]
          rfl
        · unfold txE mB xT exs
          obtain ⟨t, ht⟩ := fst_C N []
          rw [List.append_nil] at ht
          have h0 : (dsL a k)[0]?.getD 0 = ((dc a k 0 : Nat) : Int) := by
            have := dsL_at a k 0 (by omega)
            rw [List.getD_eq_getElem?_getD] at this
            exact this
          rw [dsL_len, if_pos ck, h0, tb_app, tb_app, tb_app, tb_app, tb_app, tb_app, tb_sg, tb_drop, tb_ds, ht]
          by_cases g : 0 < dp
          · simp [tb, g, ch]
          · simp [tb, g, ch]
      · obtain rfl : k = 1 := by omega
        have e : expOf ⟨a * 10 ^ 0, 1 + 0, 0, false, true⟩ (xV (some (decide (0 < dp), exs (dp - 1).natAbs))) = dp - 1 := by
          rw [hxv]
          unfold expOf
          rw [if_neg (by show a * 10 ^ 0 ≠ 0; rw [Nat.pow_zero]; omega)]
          simp
          omega
        refine tx_of F (mt_C N 0 (by omega)) (Or.inr ?_) (rd_C N 0) (X := some (decide (0 < dp), exs (dp - 1).natAbs)) hXX ?_ (by rw [Nat.pow_zero]; omega) (by rw [Nat.pow_zero]; omega) (by rw [e]; exact hQ) (by rw [e, Nat.pow_zero, Nat.mul_one]; exact hI)
        · obtain ⟨t, ht⟩ := fst_C N (zc 0)
          exact ⟨_, t, ht, fst_dg a 1 0, ch_ne a 1 N⟩
        · unfold txE mC xT exs
          have h0 : (dsL a 1)[0]?.getD 0 = ((dc a 1 0 : Nat) : Int) := rfl
          rw [dsL_len, if_neg (by omega), h0, tb_app, tb_app, tb_app, tb_app, tb_app, tb_sg]
          by_cases g : 0 < dp
          · simp [tb, g, ch, chs, zc]
          · simp [tb, g, ch, chs, zc]
theorem tx_zero (neg : Bool) : Tx neg (tb (sgT neg ++ [48])) 0 := by
  have hr : rd [48] = ⟨0, 0, -1, false, true⟩ := rfl
  refine ⟨[48], none, mt_one (by intro c hc; simp at hc; rw [hc]; decide) (by rw [hr]; decide) (by decide), by decide, (fun _ _ h => (by cases h)), (by rw [hr]), (fun _ _ => Or.inl (by decide)), (fun _ => (by show Dg 48; decide)), ?_, Or.inl ⟨(by rw [hr]), rfl⟩⟩
  cases neg <;> rfl
end Go.Proofs.YtedllapajgcfeaaGreatDoor
