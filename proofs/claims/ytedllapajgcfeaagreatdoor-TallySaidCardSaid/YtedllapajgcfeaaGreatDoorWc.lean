/-
  internal/strconv.shortFloat at any float64 that is no zero: walked.
-/
import Derived.Test.YtedllapajgcfeaaGreatDoorWb
import Derived.Deep.DeepCutAuto
import Derived.WalkSmall
namespace Go.Proofs.YtedllapajgcfeaaGreatDoor
set_option linter.unusedVariables false
set_option linter.unusedSimpArgs false
set_option exponentiation.threshold 5000
open Go.RowKit Go.Proofs.YtedllapajgcfeaaGreatDoorW.PrintWords

def sczP : Obj := .cells #[.int .u64 0, .int .u64 0, .int .i64 0] 138
def scP (w : World) (hi lo : Nat) (s : Int) : World := (((w.alloc sczP).setCell ⟨w.heap.size, 0, none⟩ (.int .u64 hi)).setCell ⟨w.heap.size, 1, none⟩ (.int .u64 lo)).setCell ⟨w.heap.size, 2, none⟩ (.int .i64 s)
theorem scP_blk (w : World) (hi lo : Nat) (s : Int) : (scP w hi lo s).heap[w.heap.size]? = some (.cells #[.int .u64 hi, .int .u64 lo, .int .i64 s] 138 (0, 0)) := by
  have h0 : (w.alloc sczP).heap[w.heap.size]? = some (.cells #[.int .u64 0, .int .u64 0, .int .i64 0] 138 (0, 0)) := blk_new w sczP
  have h1 : ((w.alloc sczP).setCell ⟨w.heap.size, 0, none⟩ (.int .u64 hi)).heap[w.heap.size]? = some (.cells #[.int .u64 hi, .int .u64 0, .int .i64 0] 138 (0, 0)) := by simpa using blk_set h0 0 (.int .u64 hi)
  have h2 : (((w.alloc sczP).setCell ⟨w.heap.size, 0, none⟩ (.int .u64 hi)).setCell ⟨w.heap.size, 1, none⟩ (.int .u64 lo)).heap[w.heap.size]? = some (.cells #[.int .u64 hi, .int .u64 lo, .int .i64 0] 138 (0, 0)) := by simpa using blk_set h1 1 (.int .u64 lo)
  simpa [scP] using blk_set h2 2 (.int .i64 s)
theorem scP_below (w : World) (hi lo : Nat) (s : Int) : Below w.heap.size w (scP w hi lo s) := by
  unfold scP
  exact ((((Below.refl _ _).alloc (Nat.le_refl _) _).setCell (Nat.le_refl _) _).setCell (Nat.le_refl _) _).setCell (Nat.le_refl _) _
theorem TabP.below {w w' : World} (h : TabP w) (hb : Below w.heap.size w w') : TabP w' :=
  ⟨Nat.lt_of_lt_of_le h.1 hb.size, fun P h1 h2 => ⟨(hb.cell (p := ⟨10, (P + 348).toNat * 2, none⟩) h.1).trans (h.2 P h1 h2).1, (hb.cell (p := ⟨10, (P + 348).toNat * 2 + 1, none⟩) h.1).trans (h.2 P h1 h2).2⟩⟩
theorem cell_dr {w : World} {p : Addr} {v : Option Value} (n : Nat) (h : w.cell? p = v) : (w.drewN n).cell? p = v := h
theorem i64_and1 {k : Nat} (hk : k < 9223372036854775808) : bits .and .i64 (k : Int) 1 = ((k % 2 : Nat) : Int) := by
  have h127 : (BitVec.ofInt 64 1).toNat = 2 ^ 1 - 1 := by decide
  have key : (BitVec.ofInt 64 (k : Int) &&& BitVec.ofInt 64 1).toNat = ((k : Int) % ((2 ^ 64 : Nat) : Int)).toNat % 2 ^ 1 := by
    rw [BitVec.toNat_and, BitVec.toNat_ofInt, h127, Nat.and_two_pow_sub_one_eq_mod]
  show IntKind.i64.wrap ((BitVec.ofInt 64 (k : Int) &&& BitVec.ofInt 64 1).toNat : Nat) = ((k % 2 : Nat) : Int)
  rw [key, IntKind.wrap_i64]
  omega
/-- prescale into a new scaler. -/
theorem prescale_new (e P lp : Int) (he : -3000 ≤ e ∧ e ≤ 3000) (hl : -3000 ≤ lp ∧ lp ≤ 3000) (w : World) (hT : TabP w) (h1 : -348 ≤ P) (h2 : P ≤ 347) :
    Calls Tryz.prog 98 #[.pointer (some ⟨w.heap.size, 0, none⟩), .int .i64 e, .int .i64 P, .int .i64 lp] (w.alloc sczP) fun e' w' => e' = .returned (.tuple #[]) ∧ Below w.heap.size w w' ∧
      w'.cell? ⟨w.heap.size, 0, none⟩ = some (.int .u64 ((Sc.row P).1 : Nat)) ∧ w'.cell? ⟨w.heap.size, 1, none⟩ = some (.int .u64 ((Sc.row P).2 : Nat)) ∧ w'.cell? ⟨w.heap.size, 2, none⟩ = some (.int .i64 (-(e + lp + 3))) := by
  refine (prescale_any w.heap.size e P lp he hl (w.alloc sczP) (blk_new w sczP) (hT.below ((Below.refl _ _).alloc (Nat.le_refl _) _)) h1 h2 (by have := hT.1; omega)).mono ?_
  rintro e' w' ⟨rfl, rfl⟩
  have K := scP_blk w (Sc.row P).1 (Sc.row P).2 (-(e + lp + 3))
  exact ⟨rfl, scP_below w _ _ _, (blk_cell K 0).trans rfl, (blk_cell K 1).trans rfl, (blk_cell K 2).trans rfl⟩
/-- uscale of a scaler that stands. -/
theorem uscale_at {x g : Nat} {e P : Int} (H : Sc.Fs x e P) (hs : -(e + Sc.lp (-P) + 3) < 64) (w : World) (c0 : w.cell? ⟨g, 0, none⟩ = some (.int .u64 ((Sc.row (-P)).1 : Nat))) (c1 : w.cell? ⟨g, 1, none⟩ = some (.int .u64 ((Sc.row (-P)).2 : Nat))) (c2 : w.cell? ⟨g, 2, none⟩ = some (.int .i64 (-(e + Sc.lp (-P) + 3)))) :
    Calls Tryz.prog 100 #[.int .u64 x, .pointer (some ⟨g, 0, none⟩)] w fun e' w' => e' = .returned (.int .u64 (Sc.fu x e P : Nat)) ∧ (∃ n, w' = w.drewN n) ∧ Sc.fu x e P < 1152921504606846976 := by
  have R := Sc.row_f (-P) (by have := H.p1; omega) (by have := H.p0; omega)
  have h5 := H.s0
  have hx0 := H.x0
  have h3 := R.h3
  have hlt : Sc.fu x e P < 2 ^ 60 := Sc.us_lt H.x1 R.h1 (by omega)
  refine (uscale_any x g _ _ (-(e + Sc.lp (-P) + 3)).toNat w H.x1 R.h1 R.h2 (by omega) ?_ c0 c1 (by rw [c2]; congr 2; omega)).mono ?_
  · have : 4611686018427387904 * 2 ^ 63 ≤ x * (Sc.row (-P)).1 := Nat.mul_le_mul hx0 h3
    omega
  · rintro e' w' ⟨rfl, hw⟩
    exact ⟨rfl, hw, hlt⟩

set_option maxRecDepth 100000 in
set_option maxHeartbeats 6400000 in
theorem short_any (m z : Nat) (E : Int) (F : Sc.Fin m E) (Z : Sc.Zs m z) (w : World) (hT : TabP w) : Calls Tryz.prog 70 #[.int .u64 (m * 2 ^ z : Nat), .int .i64 (E - z)] w fun e w' => e = .returned (.tuple #[.int .u64 ((Sc.short m z E).1 : Nat), .int .i64 (Sc.short m z E).2]) ∧ Below w.heap.size w w' := by
  obtain ⟨z1, z2, z3⟩ := Sc.zs_f F Z
  have f1 := F.lo
  have f2 := F.hi
  have q0 := Z.lo
  have q1 := Z.hi
  have mlt := F.lt
  obtain ⟨G1, G2, G3⟩ := Sc.fs_of F Z
  have EF := Sc.fP_f F
  have g1 := EF.lo
  have g2 := EF.hi
  have g3 := EF.s0
  have g4 := EF.s3
  have hlp : -1200 ≤ Sc.lp (-(Sc.fP m E)) ∧ Sc.lp (-(Sc.fP m E)) ≤ 1200 := by unfold Sc.lp; omega
  have hss : -(E - z + Sc.lp (-(Sc.fP m E)) + 3) < 64 := by omega
  have HPR := Lib.hid (prescale_new (E - z) (-(Sc.fP m E)) (Sc.lp (-(Sc.fP m E))) (by omega) (by omega) w hT (by omega) (by omega))
  have HL2 := Lib.hid (fun w' => log2_any (-(Sc.fP m E)) (by omega) (by omega) w')
  have HU1 := Lib.hid (fun w' => uscale_at (g := w.heap.size) G1 hss w')
  have HU2 := Lib.hid (fun w' => uscale_at (g := w.heap.size) G2 hss w')
  have HU3 := Lib.hid (fun w' => uscale_at (g := w.heap.size) G3 hss w')
  have hpos2 : 1 ≤ Sc.fu (Sc.fmax m z) (E - z) (Sc.fP m E) := by
    have t0 := Sc.cmp_hi F Z 0 (by decide)
    have : Sc.wv 0 (Sc.fP m E) = 0 := by unfold Sc.wv; rw [Nat.zero_mul, Nat.zero_mul]
    have : 0 < Sc.N (2 * m + 1) (E - 1) := Sc.N_pos _ (by omega)
    unfold Sc.Tri at t0
    omega
  have HPO := Lib.hid hpos2
  obtain ⟨R, hR⟩ : ∃ R, R = Sc.short m z E := ⟨_, rfl⟩
  rw [← hR]
  unfold Sc.short Sc.dlo Sc.dhi at hR
  have nq1 := i64w (-(Sc.fP m E)) (by omega) (by omega)
  have nq2 := i64w (-(Sc.fP m E) - 1) (by omega) (by omega)
  have nq3 := i64w (-(-(Sc.fP m E) - 1)) (by omega) (by omega)
  have nq4 := i64w (-(-(Sc.fP m E))) (by omega) (by omega)
  have zz : 2 ^ z = 2 * 2 ^ (z - 1) := by rw [show z = z - 1 + 1 from by omega, Nat.pow_succ, Nat.mul_comm]; rfl
  have em : m * 2 ^ z = 2 * (m * 2 ^ (z - 1)) := by rw [zz]; grind
  have emx : Sc.fmax m z = m * 2 ^ z + 2 ^ (z - 1) := by unfold Sc.fmax; rw [em, Nat.add_mul, Nat.one_mul]; grind
  have hmx := G2.x1
  by_cases hs : Sc.Skew m E
  · have hz := z3 (by have := hs.1; omega)
    have eP : Sc.fP m E = Sc.sk E := if_pos hs
    have emn : Sc.fmin m z E = m * 2 ^ z - 2 ^ (z - 2) := by
      unfold Sc.fmin
      rw [if_pos hs, Nat.sub_mul, Nat.one_mul]
      congr 1
      rw [hz]
      omega
    obtain ⟨hm, hE⟩ := hs
    have HLG : Hid (∀ w', Calls Tryz.prog 97 #[.int .i64 E] w' fun e w'' => e = .returned (.int .i64 (Sc.fP m E)) ∧ w' = w'') := Lib.hid (fun w' => eP ▸ skew_any E (by omega) (by omega) w')
    clear eP
    have ex : m * 2 ^ z = 9223372036854775808 := by rw [hz, hm]
    have emn' : Sc.fmin m z E = 9223372036854775296 := by rw [emn, ex, hz]
    have emx' : Sc.fmax m z = 9223372036854776832 := by rw [emx, ex, hz]
    have eo : m % 2 = 0 := by omega
    rw [emn'] at HU1 hR
    rw [emx'] at HU2 hR HPO
    rw [ex] at HU3 hR ⊢
    rw [show ((9223372036854775808 : Nat) : Int) = 9223372036854775808 from rfl]
    rw [eo] at hR
    have hzz : (E - (z : Int)) = E - 11 := by omega
    rw [hzz] at HU1 HU2 HU3 hR HPO HPR ⊢
    have t1 : decide (E - 11 > -1085) = true := by simp; omega
    have b1 : bits .and .i64 4503599627370496 1 = 0 := by decide +kernel
    generalize Sc.fP m E = q at *
    clear emn emx emn' emx' ex em zz hm hE F Z G1 G2 G3 EF q0 q1 hpos2 hss eo hmx g3 g4 hlp z1 z2 z3 mlt hzz hz
    go_enter Tryz.func70, Tryz.ntmps70
    go_wp2_with fail
    refine (HLG.out _).mono ?_
    rintro e w1 ⟨rfl, rfl⟩
    go_wp2_with fail
    refine (HL2.out _).mono ?_
    rintro e w1 ⟨rfl, rfl⟩
    go_wp2_with fail
    refine (HPR.out).mono ?_
    rintro e w1 ⟨rfl, hB, c0, c1, c2⟩
    replace hB := Lib.hid hB
    replace c0 := Lib.hid c0
    replace c1 := Lib.hid c1
    replace c2 := Lib.hid c2
    go_wp2_with fail
    refine (HU1.out _ c0.out c1.out c2.out).mono ?_
    rintro e w2 ⟨rfl, ⟨n2, rfl⟩, l1⟩
    have hB2 := Lib.hid (below_drewN hB.out n2)
    have d0 := Lib.hid (cell_dr n2 c0.out)
    have d1 := Lib.hid (cell_dr n2 c1.out)
    have d2 := Lib.hid (cell_dr n2 c2.out)
    clear hB c0 c1 c2
    generalize World.drewN w1 n2 = w2 at *
    generalize Sc.fu 9223372036854775296 (E - 11) q = u1 at *
    have L1 := Lib.hid l1
    clear l1
    go_wp2_with fail
    refine (nudge_up u1 0 L1.out (by omega) _).mono ?_
    rintro e w3 ⟨rfl, rfl⟩
    go_wp2_with fail
    refine (ceil_any (u1 + 0) (by have := L1.out; omega) _).mono ?_
    rintro e w3 ⟨rfl, rfl⟩
    have ha : (u1 + 0 + 3) / 4 < 1152921504606846976 := by have := L1.out; omega
    generalize (u1 + 0 + 3) / 4 = a at *
    have HA := Lib.hid ha
    clear ha
    go_wp2_with fail
    refine (HU2.out _ d0.out d1.out d2.out).mono ?_
    rintro e w3 ⟨rfl, ⟨n3, rfl⟩, l2⟩
    have hB3 := Lib.hid (below_drewN hB2.out n3)
    have k0 := Lib.hid (cell_dr n3 d0.out)
    have k1 := Lib.hid (cell_dr n3 d1.out)
    have k2 := Lib.hid (cell_dr n3 d2.out)
    clear hB2 d0 d1 d2
    generalize World.drewN w2 n3 = w3 at *
    generalize Sc.fu 9223372036854776832 (E - 11) q = u2 at *
    have L2 := Lib.hid l2
    clear l2
    go_wp2_with fail
    refine (nudge_dn u2 0 L2.out HPO.out (by omega) _).mono ?_
    rintro e w4 ⟨rfl, rfl⟩
    go_wp2_with fail
    refine (floor_any (u2 - 0) (by have := L2.out; omega) _).mono ?_
    rintro e w4 ⟨rfl, rfl⟩
    have hb : (u2 - 0) / 4 < 1152921504606846976 := by have := L2.out; omega
    generalize (u2 - 0) / 4 = b at *
    have r0 := u64w ((b : Int) / 10) (by omega) (by omega)
    have r1 := u64w ((b : Int) / 10 * 10) (by omega) (by omega)
    have HBd := Lib.hid hb
    clear hb
    by_cases p1 : a ≤ b / 10 * 10
    · have p1' : decide ((b : Int) / 10 * 10 ≥ (a : Int)) = true := by simp; omega
      rw [if_pos p1] at hR
      clear p1
      go_wp2_with fail
      go_ret2
      subst hR
      exact ⟨(show Ending.returned (Value.tuple #[Value.int IntKind.u64 ((b : Int) / 10), Value.int IntKind.i64 (-(-q - 1))]) = _ from by rw [show -(-q - 1) = q + 1 from by omega]; rfl), hB3.out⟩
    · have p1' : decide ((b : Int) / 10 * 10 ≥ (a : Int)) = false := by simp; omega
      rw [if_neg p1] at hR
      clear p1
      by_cases p2 : a < b
      · have p2' : decide (a < b) = true := by simp; omega
        rw [if_pos p2] at hR
        clear p2
        go_wp2_with fail
        refine (HU3.out _ k0.out k1.out k2.out).mono ?_
        rintro e w4 ⟨rfl, ⟨n4, rfl⟩, l3⟩
        have hB4 := Lib.hid (below_drewN hB3.out n4)
        clear hB3 k0 k1 k2
        generalize World.drewN w3 n4 = w4 at *
        generalize Sc.fu 9223372036854775808 (E - 11) q = u3 at *
        have L3 := Lib.hid l3
        clear l3
        go_wp2_with fail
        refine (round_any u3 (by have := L3.out; omega) _).mono ?_
        rintro e w5 ⟨rfl, rfl⟩
        go_wp2_with fail
        go_ret2
        subst hR
        exact ⟨by first | rfl | (show Ending.returned (Value.tuple #[Value.int IntKind.u64 ((Sc.rnd u3 : Nat) : Int), Value.int IntKind.i64 (- -q)]) = _; rw [Int.neg_neg]; rfl) | (show Ending.returned (Value.tuple #[Value.int IntKind.u64 ((Sc.rnd u3 : Nat) : Int), Value.int IntKind.i64 (IntKind.i64.wrap (- -q))]) = _; rw [i64w _ (by omega) (by omega), Int.neg_neg]; rfl), hB4.out⟩
      · have p2' : decide (a < b) = false := by simp; omega
        rw [if_neg p2] at hR
        clear p2
        go_wp2_with fail
        go_ret2
        subst hR
        exact ⟨by first | rfl | (show Ending.returned (Value.tuple #[Value.int IntKind.u64 (a : Int), Value.int IntKind.i64 (- -q)]) = _; rw [Int.neg_neg]; rfl) | (show Ending.returned (Value.tuple #[Value.int IntKind.u64 (a : Int), Value.int IntKind.i64 (IntKind.i64.wrap (- -q))]) = _; rw [i64w _ (by omega) (by omega), Int.neg_neg]; rfl), hB3.out⟩
  · have eP : Sc.fP m E = Sc.l10 E := if_neg hs
    have emn : Sc.fmin m z E = m * 2 ^ z - 2 ^ (z - 1) := by
      unfold Sc.fmin
      rw [if_neg hs, Nat.sub_mul, Nat.one_mul]
      congr 1
      rw [em]; grind
    have HLG : Hid (∀ w', Calls Tryz.prog 65 #[.int .i64 E] w' fun e w'' => e = .returned (.int .i64 (Sc.fP m E)) ∧ w' = w'') := Lib.hid (fun w' => eP ▸ log10_any E (by omega) (by omega) w')
    clear eP
    rw [emn] at HU1 hR
    rw [emx] at HU2 hR HPO hmx
    have hmn := G1.x0
    rw [emn] at hmn
    have ediv : m * 2 ^ z / 2 ^ z = m := Nat.mul_div_cancel _ (Nat.two_pow_pos _)
    have hskm : m * 2 ^ z = 9223372036854775808 → ¬ (E - z > -1085) := by
      intro h1 h2
      have hz : z = 11 := by
        rcases Nat.lt_or_ge m 4503599627370496 with g | g
        · have := F.sub g; omega
        · exact z3 g
      apply hs
      rw [hz] at h1 h2
      exact ⟨by omega, by omega⟩
    have hcase : (z = 11 ∧ E - (z : Int) ≥ -1085) ∨ (11 < z ∧ E = -1074) := by
      rcases Nat.lt_or_ge m 4503599627370496 with g | g
      · have := F.sub g
        rcases Nat.lt_or_ge 11 z with g2 | g2
        · exact Or.inr ⟨g2, this⟩
        · exact Or.inl ⟨by omega, by omega⟩
      · have := z3 g
        exact Or.inl ⟨this, by omega⟩
    have hp1 : 1 ≤ 2 ^ (z - 1) := Nat.two_pow_pos _
    generalize Sc.fP m E = q at *
    generalize hX : m * 2 ^ z = x at *
    have ho : m % 2 ≤ 1 := by omega
    have hm0 : m % 2 < 2 := by omega
    clear emn emx em hs F Z G1 G2 G3 EF hpos2 hss g3 g4 hlp
    rcases hcase with ⟨hz, hE⟩ | ⟨hz, hE⟩
    · subst hz
      rw [show (2 : Nat) ^ (11 - 1) = 1024 from rfl] at *
      rw [show (2 : Nat) ^ 11 = 2048 from rfl] at *
      rw [show (E - ((11 : Nat) : Int)) = E - 11 from rfl] at *
      have tN : decide (E - 11 ≥ -1085) = true := by simp; omega
      have a1 := u64w ((x : Int) - 1024) (by omega) (by omega)
      have a2 := u64w ((x : Int) + 1024) (by omega) (by omega)
      have a3 := i64w ((x : Int) / 2048) (by omega) (by omega)
      have a4 : bits .and .i64 ((x : Int) / 2048) 1 = ((m % 2 : Nat) : Int) := by
        rw [show (x : Int) / 2048 = ((m : Nat) : Int) from by omega]
        have := @i64_and1 m (by omega)
        exact this
      have a5 := i64w (-((m % 2 : Nat) : Int)) (by omega) (by omega)
      have e1 : ((x - 1024 : Nat) : Int) = (x : Int) - 1024 := by omega
      have e2 : ((x + 1024 : Nat) : Int) = (x : Int) + 1024 := by omega
      rw [e1] at HU1
      rw [e2] at HU2
      have HX := Lib.hid (And.intro hmn (And.intro hmx ediv))
      clear hmn hmx ediv zz hp1 e1 e2 z1 z2 z3 hE hX
      generalize m % 2 = o at *
      by_cases hx : x = 9223372036854775808
      · have t0 : ((x : Int) == 9223372036854775808) = true := by simp; omega
        have t1 : decide (E - 11 > -1085) = false := by have := hskm hx; simp; omega
        clear hskm hx
        go_enter Tryz.func70, Tryz.ntmps70
        go_wp2_with fail
        refine (HLG.out _).mono ?_
        rintro e w1 ⟨rfl, rfl⟩
        go_wp2_with fail
        refine (HL2.out _).mono ?_
        rintro e w1 ⟨rfl, rfl⟩
        go_wp2_with fail
        refine (HPR.out).mono ?_
        rintro e w1 ⟨rfl, hB, c0, c1, c2⟩
        replace hB := Lib.hid hB
        replace c0 := Lib.hid c0
        replace c1 := Lib.hid c1
        replace c2 := Lib.hid c2
        go_wp2_with fail
        refine (HU1.out _ c0.out c1.out c2.out).mono ?_
        rintro e w2 ⟨rfl, ⟨n2, rfl⟩, l1⟩
        have hB2 := Lib.hid (below_drewN hB.out n2)
        have d0 := Lib.hid (cell_dr n2 c0.out)
        have d1 := Lib.hid (cell_dr n2 c1.out)
        have d2 := Lib.hid (cell_dr n2 c2.out)
        clear hB c0 c1 c2
        generalize World.drewN w1 n2 = w2 at *
        generalize Sc.fu (x - 1024) (E - 11) q = u1 at *
        have L1 := Lib.hid l1
        clear l1
        go_wp2_with fail
        refine (nudge_up u1 o L1.out (by omega) _).mono ?_
        rintro e w3 ⟨rfl, rfl⟩
        go_wp2_with fail
        refine (ceil_any (u1 + o) (by have := L1.out; omega) _).mono ?_
        rintro e w3 ⟨rfl, rfl⟩
        have ha : (u1 + o + 3) / 4 < 1152921504606846976 := by have := L1.out; omega
        generalize (u1 + o + 3) / 4 = a at *
        have HA := Lib.hid ha
        clear ha
        go_wp2_with fail
        refine (HU2.out _ d0.out d1.out d2.out).mono ?_
        rintro e w3 ⟨rfl, ⟨n3, rfl⟩, l2⟩
        have hB3 := Lib.hid (below_drewN hB2.out n3)
        have k0 := Lib.hid (cell_dr n3 d0.out)
        have k1 := Lib.hid (cell_dr n3 d1.out)
        have k2 := Lib.hid (cell_dr n3 d2.out)
        clear hB2 d0 d1 d2
        generalize World.drewN w2 n3 = w3 at *
        generalize Sc.fu (x + 1024) (E - 11) q = u2 at *
        have L2 := Lib.hid l2
        clear l2
        go_wp2_with fail
        refine (nudge_dn u2 o L2.out HPO.out (by omega) _).mono ?_
        rintro e w4 ⟨rfl, rfl⟩
        go_wp2_with fail
        refine (floor_any (u2 - o) (by have := L2.out; omega) _).mono ?_
        rintro e w4 ⟨rfl, rfl⟩
        have hb : (u2 - o) / 4 < 1152921504606846976 := by have := L2.out; omega
        generalize (u2 - o) / 4 = b at *
        have r0 := u64w ((b : Int) / 10) (by omega) (by omega)
        have r1 := u64w ((b : Int) / 10 * 10) (by omega) (by omega)
        have HBd := Lib.hid hb
        clear hb
        by_cases p1 : a ≤ b / 10 * 10
        · have p1' : decide ((b : Int) / 10 * 10 ≥ (a : Int)) = true := by simp; omega
          rw [if_pos p1] at hR
          clear p1
          go_wp2_with fail
          go_ret2
          subst hR
          exact ⟨(show Ending.returned (Value.tuple #[Value.int IntKind.u64 ((b : Int) / 10), Value.int IntKind.i64 (-(-q - 1))]) = _ from by rw [show -(-q - 1) = q + 1 from by omega]; rfl), hB3.out⟩
        · have p1' : decide ((b : Int) / 10 * 10 ≥ (a : Int)) = false := by simp; omega
          rw [if_neg p1] at hR
          clear p1
          by_cases p2 : a < b
          · have p2' : decide (a < b) = true := by simp; omega
            rw [if_pos p2] at hR
            clear p2
            go_wp2_with fail
            refine (HU3.out _ k0.out k1.out k2.out).mono ?_
            rintro e w4 ⟨rfl, ⟨n4, rfl⟩, l3⟩
            have hB4 := Lib.hid (below_drewN hB3.out n4)
            clear hB3 k0 k1 k2
            generalize World.drewN w3 n4 = w4 at *
            generalize Sc.fu x (E - 11) q = u3 at *
            have L3 := Lib.hid l3
            clear l3
            go_wp2_with fail
            refine (round_any u3 (by have := L3.out; omega) _).mono ?_
            rintro e w5 ⟨rfl, rfl⟩
            go_wp2_with fail
            go_ret2
            subst hR
            exact ⟨by first | rfl | (show Ending.returned (Value.tuple #[Value.int IntKind.u64 ((Sc.rnd u3 : Nat) : Int), Value.int IntKind.i64 (- -q)]) = _; rw [Int.neg_neg]; rfl) | (show Ending.returned (Value.tuple #[Value.int IntKind.u64 ((Sc.rnd u3 : Nat) : Int), Value.int IntKind.i64 (IntKind.i64.wrap (- -q))]) = _; rw [i64w _ (by omega) (by omega), Int.neg_neg]; rfl), hB4.out⟩
          · have p2' : decide (a < b) = false := by simp; omega
            rw [if_neg p2] at hR
            clear p2
            go_wp2_with fail
            go_ret2
            subst hR
            exact ⟨by first | rfl | (show Ending.returned (Value.tuple #[Value.int IntKind.u64 (a : Int), Value.int IntKind.i64 (- -q)]) = _; rw [Int.neg_neg]; rfl) | (show Ending.returned (Value.tuple #[Value.int IntKind.u64 (a : Int), Value.int IntKind.i64 (IntKind.i64.wrap (- -q))]) = _; rw [i64w _ (by omega) (by omega), Int.neg_neg]; rfl), hB3.out⟩
      · have t0 : ((x : Int) == 9223372036854775808) = false := by simp; omega
        clear hskm hx
        go_enter Tryz.func70, Tryz.ntmps70
        go_wp2_with fail
        refine (HLG.out _).mono ?_
        rintro e w1 ⟨rfl, rfl⟩
        go_wp2_with fail
        refine (HL2.out _).mono ?_
        rintro e w1 ⟨rfl, rfl⟩
        go_wp2_with fail
        refine (HPR.out).mono ?_
        rintro e w1 ⟨rfl, hB, c0, c1, c2⟩
        replace hB := Lib.hid hB
        replace c0 := Lib.hid c0
        replace c1 := Lib.hid c1
        replace c2 := Lib.hid c2
        go_wp2_with fail
        refine (HU1.out _ c0.out c1.out c2.out).mono ?_
        rintro e w2 ⟨rfl, ⟨n2, rfl⟩, l1⟩
        have hB2 := Lib.hid (below_drewN hB.out n2)
        have d0 := Lib.hid (cell_dr n2 c0.out)
        have d1 := Lib.hid (cell_dr n2 c1.out)
        have d2 := Lib.hid (cell_dr n2 c2.out)
        clear hB c0 c1 c2
        generalize World.drewN w1 n2 = w2 at *
        generalize Sc.fu (x - 1024) (E - 11) q = u1 at *
        have L1 := Lib.hid l1
        clear l1
        go_wp2_with fail
        refine (nudge_up u1 o L1.out (by omega) _).mono ?_
        rintro e w3 ⟨rfl, rfl⟩
        go_wp2_with fail
        refine (ceil_any (u1 + o) (by have := L1.out; omega) _).mono ?_
        rintro e w3 ⟨rfl, rfl⟩
        have ha : (u1 + o + 3) / 4 < 1152921504606846976 := by have := L1.out; omega
        generalize (u1 + o + 3) / 4 = a at *
        have HA := Lib.hid ha
        clear ha
        go_wp2_with fail
        refine (HU2.out _ d0.out d1.out d2.out).mono ?_
        rintro e w3 ⟨rfl, ⟨n3, rfl⟩, l2⟩
        have hB3 := Lib.hid (below_drewN hB2.out n3)
        have k0 := Lib.hid (cell_dr n3 d0.out)
        have k1 := Lib.hid (cell_dr n3 d1.out)
        have k2 := Lib.hid (cell_dr n3 d2.out)
        clear hB2 d0 d1 d2
        generalize World.drewN w2 n3 = w3 at *
        generalize Sc.fu (x + 1024) (E - 11) q = u2 at *
        have L2 := Lib.hid l2
        clear l2
        go_wp2_with fail
        refine (nudge_dn u2 o L2.out HPO.out (by omega) _).mono ?_
        rintro e w4 ⟨rfl, rfl⟩
        go_wp2_with fail
        refine (floor_any (u2 - o) (by have := L2.out; omega) _).mono ?_
        rintro e w4 ⟨rfl, rfl⟩
        have hb : (u2 - o) / 4 < 1152921504606846976 := by have := L2.out; omega
        generalize (u2 - o) / 4 = b at *
        have r0 := u64w ((b : Int) / 10) (by omega) (by omega)
        have r1 := u64w ((b : Int) / 10 * 10) (by omega) (by omega)
        have HBd := Lib.hid hb
        clear hb
        by_cases p1 : a ≤ b / 10 * 10
        · have p1' : decide ((b : Int) / 10 * 10 ≥ (a : Int)) = true := by simp; omega
          rw [if_pos p1] at hR
          clear p1
          go_wp2_with fail
          go_ret2
          subst hR
          exact ⟨(show Ending.returned (Value.tuple #[Value.int IntKind.u64 ((b : Int) / 10), Value.int IntKind.i64 (-(-q - 1))]) = _ from by rw [show -(-q - 1) = q + 1 from by omega]; rfl), hB3.out⟩
        · have p1' : decide ((b : Int) / 10 * 10 ≥ (a : Int)) = false := by simp; omega
          rw [if_neg p1] at hR
          clear p1
          by_cases p2 : a < b
          · have p2' : decide (a < b) = true := by simp; omega
            rw [if_pos p2] at hR
            clear p2
            go_wp2_with fail
            refine (HU3.out _ k0.out k1.out k2.out).mono ?_
            rintro e w4 ⟨rfl, ⟨n4, rfl⟩, l3⟩
            have hB4 := Lib.hid (below_drewN hB3.out n4)
            clear hB3 k0 k1 k2
            generalize World.drewN w3 n4 = w4 at *
            generalize Sc.fu x (E - 11) q = u3 at *
            have L3 := Lib.hid l3
            clear l3
            go_wp2_with fail
            refine (round_any u3 (by have := L3.out; omega) _).mono ?_
            rintro e w5 ⟨rfl, rfl⟩
            go_wp2_with fail
            go_ret2
            subst hR
            exact ⟨by first | rfl | (show Ending.returned (Value.tuple #[Value.int IntKind.u64 ((Sc.rnd u3 : Nat) : Int), Value.int IntKind.i64 (- -q)]) = _; rw [Int.neg_neg]; rfl) | (show Ending.returned (Value.tuple #[Value.int IntKind.u64 ((Sc.rnd u3 : Nat) : Int), Value.int IntKind.i64 (IntKind.i64.wrap (- -q))]) = _; rw [i64w _ (by omega) (by omega), Int.neg_neg]; rfl), hB4.out⟩
          · have p2' : decide (a < b) = false := by simp; omega
            rw [if_neg p2] at hR
            clear p2
            go_wp2_with fail
            go_ret2
            subst hR
            exact ⟨by first | rfl | (show Ending.returned (Value.tuple #[Value.int IntKind.u64 (a : Int), Value.int IntKind.i64 (- -q)]) = _; rw [Int.neg_neg]; rfl) | (show Ending.returned (Value.tuple #[Value.int IntKind.u64 (a : Int), Value.int IntKind.i64 (IntKind.i64.wrap (- -q))]) = _; rw [i64w _ (by omega) (by omega), Int.neg_neg]; rfl), hB3.out⟩
    · subst hE
      obtain ⟨t, rfl⟩ : ∃ t, z = t + 1 := ⟨z - 1, by omega⟩
      rw [show t + 1 - 1 = t from rfl] at *
      have hc1 : ((t + 1 : Nat) : Int) = (t : Int) + 1 := by omega
      rw [hc1] at HPR HU1 HU2 HU3 HPO hR ⊢
      have hpt : (2 : Nat) ^ t ≤ 4611686018427387904 := by
        have : (2 : Nat) ^ t ≤ 2 ^ 62 := Nat.pow_le_pow_right (by omega) (by omega)
        omega
      have hip : ((2 ^ t : Nat) : Int) = (2 : Int) ^ t := by push_cast; rfl
      have v1 : IntKind.u64.wrap ((2 : Int) ^ t) = (2 : Int) ^ t := by rw [← hip]; exact u64w _ (by omega) (by omega)
      have v2 : IntKind.u64.wrap ((x : Int) - (2 : Int) ^ t) = (x : Int) - (2 : Int) ^ t := by rw [← hip]; exact u64w _ (by omega) (by omega)
      have v3 : IntKind.u64.wrap ((x : Int) + (2 : Int) ^ t) = (x : Int) + (2 : Int) ^ t := by rw [← hip]; exact u64w _ (by omega) (by omega)
      have hiq : (x : Int) / 2 ^ (t + 1) = ((m : Nat) : Int) := by rw [← ediv]; push_cast; rfl
      have v4 : IntKind.i64.wrap ((x : Int) / 2 ^ (t + 1)) = (x : Int) / 2 ^ (t + 1) := by rw [hiq]; exact i64w _ (by omega) (by omega)
      have v5 : bits .and .i64 ((x : Int) / 2 ^ (t + 1)) 1 = ((m % 2 : Nat) : Int) := by rw [hiq]; exact i64_and1 (by omega)
      have e1 : ((x - 2 ^ t : Nat) : Int) = (x : Int) - (2 : Int) ^ t := by rw [← hip]; omega
      have e2 : ((x + 2 ^ t : Nat) : Int) = (x : Int) + (2 : Int) ^ t := by rw [← hip]; omega
      have a5 := i64w (-((m % 2 : Nat) : Int)) (by omega) (by omega)
      rw [e1] at HU1
      rw [e2] at HU2
      clear e1 e2 hiq hip hc1
      have tN : decide (-1074 - ((t : Int) + 1) ≥ -1085) = false := by simp; omega
      have n1 := i64w (-1085 - (-1074 - ((t : Int) + 1))) (by omega) (by omega)
      have n2 : IntKind.i64.wrap (11 + (-1085 - (-1074 - ((t : Int) + 1)))) = (t : Int) + 1 := by rw [i64w _ (by omega) (by omega)]; omega
      have n3 : IntKind.i64.wrap (-1074 - ((t : Int) + 1) + ((t : Int) + 1)) = -1074 := by rw [i64w _ (by omega) (by omega)]; omega
      have n4 : IntKind.i64.wrap ((t : Int) + 1 - 1) = (t : Int) := by rw [i64w _ (by omega) (by omega)]; omega
      have HX := Lib.hid (And.intro hmn (And.intro hmx (And.intro ediv (And.intro hpt (And.intro hX (And.intro hp1 hm0))))))
      have HS := Lib.hid hskm
      clear hmn hmx ediv hpt hX hp1 hm0 hskm zz z3
      generalize m % 2 = o at *
      by_cases hx : x = 9223372036854775808
      · have t0 : ((x : Int) == 9223372036854775808) = true := by simp; omega
        have t1 : decide (-1074 - ((t : Int) + 1) > -1085) = false := by simp; omega
        clear hx
        go_enter Tryz.func70, Tryz.ntmps70
        go_wp2_with fail
        refine (HLG.out _).mono ?_
        rintro e w1 ⟨rfl, rfl⟩
        go_wp2_with fail
        refine (HL2.out _).mono ?_
        rintro e w1 ⟨rfl, rfl⟩
        go_wp2_with fail
        refine (HPR.out).mono ?_
        rintro e w1 ⟨rfl, hB, c0, c1, c2⟩
        replace hB := Lib.hid hB
        replace c0 := Lib.hid c0
        replace c1 := Lib.hid c1
        replace c2 := Lib.hid c2
        go_wp2_with fail
        refine (HU1.out _ c0.out c1.out c2.out).mono ?_
        rintro e w2 ⟨rfl, ⟨n2, rfl⟩, l1⟩
        have hB2 := Lib.hid (below_drewN hB.out n2)
        have d0 := Lib.hid (cell_dr n2 c0.out)
        have d1 := Lib.hid (cell_dr n2 c1.out)
        have d2 := Lib.hid (cell_dr n2 c2.out)
        clear hB c0 c1 c2
        generalize World.drewN w1 n2 = w2 at *
        generalize Sc.fu (x - 2 ^ t) (-1074 - ((t : Int) + 1)) q = u1 at *
        have L1 := Lib.hid l1
        clear l1
        go_wp2_with fail
        refine (nudge_up u1 o L1.out (by omega) _).mono ?_
        rintro e w3 ⟨rfl, rfl⟩
        go_wp2_with fail
        refine (ceil_any (u1 + o) (by have := L1.out; omega) _).mono ?_
        rintro e w3 ⟨rfl, rfl⟩
        have ha : (u1 + o + 3) / 4 < 1152921504606846976 := by have := L1.out; omega
        generalize (u1 + o + 3) / 4 = a at *
        have HA := Lib.hid ha
        clear ha
        go_wp2_with fail
        refine (HU2.out _ d0.out d1.out d2.out).mono ?_
        rintro e w3 ⟨rfl, ⟨n3, rfl⟩, l2⟩
        have hB3 := Lib.hid (below_drewN hB2.out n3)
        have k0 := Lib.hid (cell_dr n3 d0.out)
        have k1 := Lib.hid (cell_dr n3 d1.out)
        have k2 := Lib.hid (cell_dr n3 d2.out)
        clear hB2 d0 d1 d2
        generalize World.drewN w2 n3 = w3 at *
        generalize Sc.fu (x + 2 ^ t) (-1074 - ((t : Int) + 1)) q = u2 at *
        have L2 := Lib.hid l2
        clear l2
        go_wp2_with fail
        refine (nudge_dn u2 o L2.out HPO.out (by omega) _).mono ?_
        rintro e w4 ⟨rfl, rfl⟩
        go_wp2_with fail
        refine (floor_any (u2 - o) (by have := L2.out; omega) _).mono ?_
        rintro e w4 ⟨rfl, rfl⟩
        have hb : (u2 - o) / 4 < 1152921504606846976 := by have := L2.out; omega
        generalize (u2 - o) / 4 = b at *
        have r0 := u64w ((b : Int) / 10) (by omega) (by omega)
        have r1 := u64w ((b : Int) / 10 * 10) (by omega) (by omega)
        have HBd := Lib.hid hb
        clear hb
        by_cases p1 : a ≤ b / 10 * 10
        · have p1' : decide ((b : Int) / 10 * 10 ≥ (a : Int)) = true := by simp; omega
          rw [if_pos p1] at hR
          clear p1
          go_wp2_with fail
          go_ret2
          subst hR
          exact ⟨(show Ending.returned (Value.tuple #[Value.int IntKind.u64 ((b : Int) / 10), Value.int IntKind.i64 (-(-q - 1))]) = _ from by rw [show -(-q - 1) = q + 1 from by omega]; rfl), hB3.out⟩
        · have p1' : decide ((b : Int) / 10 * 10 ≥ (a : Int)) = false := by simp; omega
          rw [if_neg p1] at hR
          clear p1
          by_cases p2 : a < b
          · have p2' : decide (a < b) = true := by simp; omega
            rw [if_pos p2] at hR
            clear p2
            go_wp2_with fail
            refine (HU3.out _ k0.out k1.out k2.out).mono ?_
            rintro e w4 ⟨rfl, ⟨n4, rfl⟩, l3⟩
            have hB4 := Lib.hid (below_drewN hB3.out n4)
            clear hB3 k0 k1 k2
            generalize World.drewN w3 n4 = w4 at *
            generalize Sc.fu x (-1074 - ((t : Int) + 1)) q = u3 at *
            have L3 := Lib.hid l3
            clear l3
            go_wp2_with fail
            refine (round_any u3 (by have := L3.out; omega) _).mono ?_
            rintro e w5 ⟨rfl, rfl⟩
            go_wp2_with fail
            go_ret2
            subst hR
            exact ⟨by first | rfl | (show Ending.returned (Value.tuple #[Value.int IntKind.u64 ((Sc.rnd u3 : Nat) : Int), Value.int IntKind.i64 (- -q)]) = _; rw [Int.neg_neg]; rfl) | (show Ending.returned (Value.tuple #[Value.int IntKind.u64 ((Sc.rnd u3 : Nat) : Int), Value.int IntKind.i64 (IntKind.i64.wrap (- -q))]) = _; rw [i64w _ (by omega) (by omega), Int.neg_neg]; rfl), hB4.out⟩
          · have p2' : decide (a < b) = false := by simp; omega
            rw [if_neg p2] at hR
            clear p2
            go_wp2_with fail
            go_ret2
            subst hR
            exact ⟨by first | rfl | (show Ending.returned (Value.tuple #[Value.int IntKind.u64 (a : Int), Value.int IntKind.i64 (- -q)]) = _; rw [Int.neg_neg]; rfl) | (show Ending.returned (Value.tuple #[Value.int IntKind.u64 (a : Int), Value.int IntKind.i64 (IntKind.i64.wrap (- -q))]) = _; rw [i64w _ (by omega) (by omega), Int.neg_neg]; rfl), hB3.out⟩
      · have t0 : ((x : Int) == 9223372036854775808) = false := by simp; omega
        clear hx
        go_enter Tryz.func70, Tryz.ntmps70
        go_wp2_with fail
        refine (HLG.out _).mono ?_
        rintro e w1 ⟨rfl, rfl⟩
        go_wp2_with fail
        refine (HL2.out _).mono ?_
        rintro e w1 ⟨rfl, rfl⟩
        go_wp2_with fail
        refine (HPR.out).mono ?_
        rintro e w1 ⟨rfl, hB, c0, c1, c2⟩
        replace hB := Lib.hid hB
        replace c0 := Lib.hid c0
        replace c1 := Lib.hid c1
        replace c2 := Lib.hid c2
        go_wp2_with fail
        refine (HU1.out _ c0.out c1.out c2.out).mono ?_
        rintro e w2 ⟨rfl, ⟨n2, rfl⟩, l1⟩
        have hB2 := Lib.hid (below_drewN hB.out n2)
        have d0 := Lib.hid (cell_dr n2 c0.out)
        have d1 := Lib.hid (cell_dr n2 c1.out)
        have d2 := Lib.hid (cell_dr n2 c2.out)
        clear hB c0 c1 c2
        generalize World.drewN w1 n2 = w2 at *
        generalize Sc.fu (x - 2 ^ t) (-1074 - ((t : Int) + 1)) q = u1 at *
        have L1 := Lib.hid l1
        clear l1
        go_wp2_with fail
        refine (nudge_up u1 o L1.out (by omega) _).mono ?_
        rintro e w3 ⟨rfl, rfl⟩
        go_wp2_with fail
        refine (ceil_any (u1 + o) (by have := L1.out; omega) _).mono ?_
        rintro e w3 ⟨rfl, rfl⟩
        have ha : (u1 + o + 3) / 4 < 1152921504606846976 := by have := L1.out; omega
        generalize (u1 + o + 3) / 4 = a at *
        have HA := Lib.hid ha
        clear ha
        go_wp2_with fail
        refine (HU2.out _ d0.out d1.out d2.out).mono ?_
        rintro e w3 ⟨rfl, ⟨n3, rfl⟩, l2⟩
        have hB3 := Lib.hid (below_drewN hB2.out n3)
        have k0 := Lib.hid (cell_dr n3 d0.out)
        have k1 := Lib.hid (cell_dr n3 d1.out)
        have k2 := Lib.hid (cell_dr n3 d2.out)
        clear hB2 d0 d1 d2
        generalize World.drewN w2 n3 = w3 at *
        generalize Sc.fu (x + 2 ^ t) (-1074 - ((t : Int) + 1)) q = u2 at *
        have L2 := Lib.hid l2
        clear l2
        go_wp2_with fail
        refine (nudge_dn u2 o L2.out HPO.out (by omega) _).mono ?_
        rintro e w4 ⟨rfl, rfl⟩
        go_wp2_with fail
        refine (floor_any (u2 - o) (by have := L2.out; omega) _).mono ?_
        rintro e w4 ⟨rfl, rfl⟩
        have hb : (u2 - o) / 4 < 1152921504606846976 := by have := L2.out; omega
        generalize (u2 - o) / 4 = b at *
        have r0 := u64w ((b : Int) / 10) (by omega) (by omega)
        have r1 := u64w ((b : Int) / 10 * 10) (by omega) (by omega)
        have HBd := Lib.hid hb
        clear hb
        by_cases p1 : a ≤ b / 10 * 10
        · have p1' : decide ((b : Int) / 10 * 10 ≥ (a : Int)) = true := by simp; omega
          rw [if_pos p1] at hR
          clear p1
          go_wp2_with fail
          go_ret2
          subst hR
          exact ⟨(show Ending.returned (Value.tuple #[Value.int IntKind.u64 ((b : Int) / 10), Value.int IntKind.i64 (-(-q - 1))]) = _ from by rw [show -(-q - 1) = q + 1 from by omega]; rfl), hB3.out⟩
        · have p1' : decide ((b : Int) / 10 * 10 ≥ (a : Int)) = false := by simp; omega
          rw [if_neg p1] at hR
          clear p1
          by_cases p2 : a < b
          · have p2' : decide (a < b) = true := by simp; omega
            rw [if_pos p2] at hR
            clear p2
            go_wp2_with fail
            refine (HU3.out _ k0.out k1.out k2.out).mono ?_
            rintro e w4 ⟨rfl, ⟨n4, rfl⟩, l3⟩
            have hB4 := Lib.hid (below_drewN hB3.out n4)
            clear hB3 k0 k1 k2
            generalize World.drewN w3 n4 = w4 at *
            generalize Sc.fu x (-1074 - ((t : Int) + 1)) q = u3 at *
            have L3 := Lib.hid l3
            clear l3
            go_wp2_with fail
            refine (round_any u3 (by have := L3.out; omega) _).mono ?_
            rintro e w5 ⟨rfl, rfl⟩
            go_wp2_with fail
            go_ret2
            subst hR
            exact ⟨by first | rfl | (show Ending.returned (Value.tuple #[Value.int IntKind.u64 ((Sc.rnd u3 : Nat) : Int), Value.int IntKind.i64 (- -q)]) = _; rw [Int.neg_neg]; rfl) | (show Ending.returned (Value.tuple #[Value.int IntKind.u64 ((Sc.rnd u3 : Nat) : Int), Value.int IntKind.i64 (IntKind.i64.wrap (- -q))]) = _; rw [i64w _ (by omega) (by omega), Int.neg_neg]; rfl), hB4.out⟩
          · have p2' : decide (a < b) = false := by simp; omega
            rw [if_neg p2] at hR
            clear p2
            go_wp2_with fail
            go_ret2
            subst hR
            exact ⟨by first | rfl | (show Ending.returned (Value.tuple #[Value.int IntKind.u64 (a : Int), Value.int IntKind.i64 (- -q)]) = _; rw [Int.neg_neg]; rfl) | (show Ending.returned (Value.tuple #[Value.int IntKind.u64 (a : Int), Value.int IntKind.i64 (IntKind.i64.wrap (- -q))]) = _; rw [i64w _ (by omega) (by omega), Int.neg_neg]; rfl), hB3.out⟩
end Go.Proofs.YtedllapajgcfeaaGreatDoor
