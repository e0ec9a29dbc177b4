/-
  TallyRow: walked.
-/
import Derived.Test.YtedllapajgcfeaaDoorTrp
namespace Go.Proofs.YtedllapajgcfeaaDoor
set_option linter.unusedVariables false
set_option linter.unusedSimpArgs false
open Go.RowKit Go.Proofs.YtedllapajgcfeaaDoorW.PrintWords

theorem of_tal (A : Option Addr) (c : Nat) (l : List Nat) (hl : l.length ≤ 1000) (h64 : Fin64 l) (w : World) (hA : ArgF w A l) (T : Ty) (hT : tal l = T) :
    Calls Tryd.prog 8 #[.slice A l.length c] w fun e w' => e = .returned (.agg #[.int .i64 T.many, .int .i64 T.odd, .float .f64 T.least, .float .f64 T.greatest, .float .f64 T.mean]) ∧ Below w.heap.size w w' := by
  refine (of_any A c l hl h64 w hA).mono ?_
  rintro e w1 ⟨M, rfl, hp, hs, hB⟩
  have hM := canS_uniq h64 hp (so_rle hs (hp.length_eq.trans (canonL_len l)))
  refine ⟨?_, hB⟩
  rw [hM, ← hT]
  rfl
theorem cp_self (x : Nat) : cp x x = 0 := (cp_zero x x).1.2 rfl
set_option maxRecDepth 100000 in
set_option maxHeartbeats 6400000 in
theorem same_eq (m o a b c : Nat) (ha : a < 18446744073709551616) (hb : b < 18446744073709551616) (hc : c < 18446744073709551616) (w : World) : Calls Tryd.prog 9 #[.agg #[.int .i64 m, .int .i64 o, .float .f64 a, .float .f64 b, .float .f64 c], .agg #[.int .i64 m, .int .i64 o, .float .f64 a, .float .f64 b, .float .f64 c]] w fun e w' => e = .returned (.bool true) ∧ Below w.heap.size w w' := by
  have HI : Hid (∀ z, Calls Tryd.prog 12 #[.float .f64 a, .float .f64 a] z fun e w' => e = .returned (.int .i64 0) ∧ Below z.heap.size z w') := Lib.hid fun z => by
    have := compare_any a a ha ha z
    rw [cp_self] at this
    exact this
  have HD : Hid (∀ z, Calls Tryd.prog 12 #[.float .f64 b, .float .f64 b] z fun e w' => e = .returned (.int .i64 0) ∧ Below z.heap.size z w') := Lib.hid fun z => by
    have := compare_any b b hb hb z
    rw [cp_self] at this
    exact this
  have HN : Hid (∀ z, Calls Tryd.prog 12 #[.float .f64 c, .float .f64 c] z fun e w' => e = .returned (.int .i64 0) ∧ Below z.heap.size z w') := Lib.hid fun z => by
    have := compare_any c c hc hc z
    rw [cp_self] at this
    exact this
  have t1 : ((m : Int) == (m : Int)) = true := by simp
  have t2 : ((o : Int) == (o : Int)) = true := by simp
  clear ha hb hc
  go_enter Tryd.func9, Tryd.ntmps9
  go_wp2_with fail
  obtain ⟨W0, hW0⟩ : ∃ W0, W0 = ((w.alloc (.cells #[.int .i64 m, .int .i64 o, .float .f64 a, .float .f64 b, .float .f64 c] 26)).alloc (.cells #[.int .i64 m, .int .i64 o, .float .f64 a, .float .f64 b, .float .f64 c] 26)) := ⟨_, rfl⟩
  have h2 : W0.heap[w.heap.size + 1]? = some (.cells #[.int .i64 m, .int .i64 o, .float .f64 a, .float .f64 b, .float .f64 c] 26) := by
    rw [hW0]
    have := blk_new (w.alloc (.cells #[.int .i64 m, .int .i64 o, .float .f64 a, .float .f64 b, .float .f64 c] 26)) (.cells #[.int .i64 m, .int .i64 o, .float .f64 a, .float .f64 b, .float .f64 c] 26)
    simpa using this
  have h1 : W0.heap[w.heap.size]? = some (.cells #[.int .i64 m, .int .i64 o, .float .f64 a, .float .f64 b, .float .f64 c] 26) := by rw [hW0]; exact blk_alloc (blk_new w _) _
  have hB0 : Below w.heap.size w W0 := by rw [hW0]; exact ((Below.refl w.heap.size w).alloc (Nat.le_refl _) _).alloc (by simp) _
  have HC : Hid (∀ z, Below W0.heap.size W0 z → z.cell? ⟨w.heap.size, 0, none⟩ = some (.int .i64 m) ∧ z.cell? ⟨w.heap.size, 1, none⟩ = some (.int .i64 o) ∧ z.cell? ⟨w.heap.size, 2, none⟩ = some (.float .f64 a) ∧ z.cell? ⟨w.heap.size, 3, none⟩ = some (.float .f64 b) ∧ z.cell? ⟨w.heap.size, 4, none⟩ = some (.float .f64 c) ∧
      z.cell? ⟨w.heap.size + 1, 0, none⟩ = some (.int .i64 m) ∧ z.cell? ⟨w.heap.size + 1, 1, none⟩ = some (.int .i64 o) ∧ z.cell? ⟨w.heap.size + 1, 2, none⟩ = some (.float .f64 a) ∧ z.cell? ⟨w.heap.size + 1, 3, none⟩ = some (.float .f64 b) ∧ z.cell? ⟨w.heap.size + 1, 4, none⟩ = some (.float .f64 c)) := Lib.hid fun z hz => by
    have k1 := blk_below h1 hz
    have k2 := blk_below h2 hz
    exact ⟨(blk_cell k1 0).trans rfl, (blk_cell k1 1).trans rfl, (blk_cell k1 2).trans rfl, (blk_cell k1 3).trans rfl, (blk_cell k1 4).trans rfl, (blk_cell k2 0).trans rfl, (blk_cell k2 1).trans rfl, (blk_cell k2 2).trans rfl, (blk_cell k2 3).trans rfl, (blk_cell k2 4).trans rfl⟩
  change Calls _ _ _ ((w.alloc (.cells #[.int .i64 m, .int .i64 o, .float .f64 a, .float .f64 b, .float .f64 c] 26)).alloc (.cells #[.int .i64 m, .int .i64 o, .float .f64 a, .float .f64 b, .float .f64 c] 26)) _
  rw [← hW0]
  clear hW0 h1 h2
  have HB := Lib.hid (Below.refl W0.heap.size W0)
  refine (HI.out _).mono ?_
  rintro e w1 ⟨rfl, B1⟩
  have HB1 := Lib.hid (bthen HB.out B1)
  have K1 := HC.out _ HB1.out
  clear B1
  go_wp2_with fail
  refine (HD.out _).mono ?_
  rintro e w2 ⟨rfl, B2⟩
  have HB2 := Lib.hid (bthen HB1.out B2)
  clear K1 B2
  have K1 := HC.out _ HB2.out
  go_wp2_with fail
  refine (HN.out _).mono ?_
  rintro e w3 ⟨rfl, B3⟩
  have HB3 := Lib.hid (bthen HB2.out B3)
  clear K1 B3
  go_wp2_with fail
  go_ret
  exact ⟨rfl, bthen hB0 HB3.out⟩
theorem arg_row {T : List Value} {w : World} {g : Nat} {M : List Nat} (h : RowF T w g M) : ArgF w (some ⟨g, 0, none⟩) M := fun _ => ⟨_, rfl, fun z hz k hk => by rw [add_zero_at]; exact (h.below hz).cell k hk⟩
theorem arg_own {w : World} {base n : Nat} {v : Value} {M : List Nat} (h : w.ownsRow base 24 1 v n (fl M)) : ∃ A c, v = .slice A n c ∧ ArgF w A M ∧ M.length = n := by
  obtain ⟨A, c, rfl, hR⟩ := own_reads_of (enc := Value.float .f64) (d := 0) h
  refine ⟨A, c, rfl, fun hp => ?_, hR.1⟩
  obtain ⟨ad, e, hc⟩ := hR.2.2 (by rw [← hR.1]; exact hp)
  exact ⟨ad, e, fun z hz k hk => pw_cell_below hz (hc k (by rw [← hR.1]; exact hk))⟩
set_option maxRecDepth 100000 in
set_option maxHeartbeats 12800000 in
theorem row_any (A : Option Addr) (c : Nat) (l : List Nat) (h64 : Fin64 l) (t : Nat) (ht : t < 256) (w : World) (hA : ArgF w A l) (hT : Tb w) :
    Calls Tryd.prog 3 #[.slice A l.length c, .int .u8 t] w fun e w' => e = .returned (.bool true) ∧ Below w.heap.size w w' := by
  have HT := Lib.hid hT
  have HA := Lib.hid hA
  clear hT hA
  by_cases hl : 200 < l.length
  · have t1 : decide ((200 : Int) < (l.length : Int)) = true := decide_eq_true (by omega)
    clear hl
    go_enter Tryd.func3, Tryd.ntmps3
    go_wp2_with fail
    refine (awake5_any _ HT.out).mono ?_
    rintro e w1 ⟨rfl, B1⟩
    have HB := Lib.hid B1
    clear B1
    go_wp2_with fail
    go_ret
    exact ⟨rfl, HB.out⟩
  · have t1 : decide ((200 : Int) < (l.length : Int)) = false := decide_eq_false (by omega)
    have hl2 : l.length ≤ 200 := by omega
    clear hl
    go_enter Tryd.func3, Tryd.ntmps3
    go_wp2_with fail
    go_loopw [5, 6] (fun vv iv wr => ∃ (k : Nat) (v : Value), v = vv ∧ iv = .int .i64 k ∧ k ≤ l.length ∧ Hid (wr.ownsRow w.heap.size 24 1 v (turnL l t k).length (fl (turnL l t k))) ∧ Below w.heap.size w wr) (fun _ iv _ => l.length - (RowKit.intOf iv).toNat)
    case atStart => exact ⟨0, _, rfl, rfl, Nat.zero_le _, Lib.hid (own_nil _ _ _ _), Below.refl _ _⟩
    case round =>
      obtain ⟨k, v, rfl, rfl, hk, HO, HB0⟩ := hrel
      have hlk : (turnL l t k).length = k := by simp [turnL]
      by_cases hlt : k < l.length
      · have i1 : (k : Int) < l.length := by omega
        obtain ⟨ad, rfl, HC⟩ := HA.out (by omega)
        obtain ⟨m1, hm1⟩ : ∃ m1 : Nat, l.length - 1 = m1 := ⟨_, rfl⟩
        obtain ⟨d, hd⟩ : ∃ d : Nat, m1 - k = d := ⟨_, rfl⟩
        obtain ⟨s, hs⟩ : ∃ s : Nat, d + t = s := ⟨_, rfl⟩
        obtain ⟨ix, hix⟩ : ∃ ix : Nat, s % l.length = ix := ⟨_, rfl⟩
        have hixl : ix < l.length := by rw [← hix]; exact Nat.mod_lt _ (by omega)
        have e1 : (l.length : Int) - 1 = (m1 : Int) := by omega
        have e2 : (m1 : Int) - (k : Int) = (d : Int) := by omega
        have e3 : (d : Int) + (t : Int) = (s : Int) := by omega
        have e4 : (s : Int) % (l.length : Int) = (ix : Int) := by rw [← hix]; rfl
        have e4' : Int.tmod (s : Int) (l.length : Int) = (ix : Int) := by rw [Int.tmod_eq_emod_of_nonneg (by omega)]; exact e4
        have w1 : IntKind.i64.wrap (m1 : Int) = (m1 : Int) := IntWalk.i64_in _ (by omega)
        have w2 : IntKind.i64.wrap (d : Int) = (d : Int) := IntWalk.i64_in _ (by omega)
        have w3 : IntKind.i64.wrap (s : Int) = (s : Int) := IntWalk.i64_in _ (by omega)
        have w4 : IntKind.i64.wrap (ix : Int) = (ix : Int) := IntWalk.i64_in _ (by omega)
        have w5 : IntKind.i64.wrap (t : Int) = (t : Int) := IntWalk.i64_in _ (by omega)
        have w6 : IntKind.i64.wrap ((k : Int) + 1) = (k : Int) + 1 := IntWalk.i64_in _ (by omega)
        have i2 : (ix : Int) < l.length := by omega
        have i3 : (0 : Int) ≤ (ix : Int) := by omega
        have i4 : ((l.length : Int) == 0) = false := beq_eq_false_iff_ne.2 (by omega)
        have i5 : ¬ (l.length : Int) = 0 := by omega
        have ck := HC wr HB0 ix hixl
        have HS : Hid (turnL l t (k + 1) = turnL l t k ++ [l.getD ix 0]) := Lib.hid (by rw [turnL_succ]; rw [hm1, hd, hs, hix])
        have HB1 := Lib.hid HB0
        have HZ := Lib.hid HB0.size
        have HLK := Lib.hid hlk
        clear HC hm1 hd hs hix HB0 hlk
        generalize l.getD ix 0 = x at ck HS
        go_wp2_with (at_builtin; refine print_append_of (w0 := w) (Value.float .f64) w.heap.size rfl _ _ 22 24 (.float .f64 0) 8 rfl Tryd.underlying22 (by kernel_rfl) rfl (by omega) v (turnL l t k) x rfl rfl rfl (by exact HO.out) (by exact HB1.out) HZ.out (by rw [HLK.out]; omega) ?_; intro v1 w7 HO2 HB2 hg2 hat2; replace HO2 := Lib.hid HO2; replace HB2 := Lib.hid HB2; clear hg2 hat2)
        go_roundw
        case rel => exact ⟨k + 1, v1, rfl, by go_num, by omega, Lib.hid (by rw [HS.out]; exact HO2.out), HB2.out⟩
        case measure => simp [RowKit.intOf] <;> omega
      · have hke : k = l.length := by omega
        subst hke
        have hperm := turnL_perm l t
        have HOL := Lib.hid hperm
        have HO64 : Hid (Fin64 (turnL l t l.length)) := Lib.hid (h64.perm hperm)
        rw [hlk] at HO
        generalize turnL l t l.length = L2 at HO HOL HO64
        obtain ⟨A2, c2, rfl, hA2, hl2l⟩ := arg_own HO.out
        have HA2 := Lib.hid hA2
        have HB1 := Lib.hid HB0
        have HL2 := Lib.hid hl2l
        have t2 : decide ((l.length : Int) < (l.length : Int)) = false := decide_eq_false (by omega)
        have HTF := Lib.hid (ty_fin h64 (by omega : l.length ≤ 1000))
        have HTX := Lib.hid (tal_facts l)
        clear hA2 HO hperm hlk hl2l HB0
        obtain ⟨T0, hT0⟩ : ∃ T0, tal l = T0 := ⟨_, rfl⟩
        have HT0 := Lib.hid hT0
        rw [hT0] at HTF HTX
        clear hT0
        go_wp2_with fail
        refine (of_tal A c l (by omega) h64 _ (HA.out.below HB1.out) T0 HT0.out).mono ?_
        rintro e w2 ⟨rfl, B2⟩
        go_wp2_with fail
        rcases T0 with ⟨m, o, a, b, d⟩
        obtain ⟨W0, hW0⟩ : ∃ W0, W0 = w2.alloc (.cells #[.int .i64 m, .int .i64 o, .float .f64 a, .float .f64 b, .float .f64 d] 26) := ⟨_, rfl⟩
        have hgt : W0.heap[w2.heap.size]? = some (.cells #[.int .i64 m, .int .i64 o, .float .f64 a, .float .f64 b, .float .f64 d] 26) := by rw [hW0]; exact blk_new w2 _
        have hBW : Below w.heap.size w W0 := by rw [hW0]; exact (bthen HB1.out B2).alloc (bthen HB1.out B2).size _
        have hBW1 : Below wr.heap.size wr W0 := by rw [hW0]; exact B2.alloc B2.size _
        change Code.wp _ _ _ _ (w2.alloc (.cells #[.int .i64 m, .int .i64 o, .float .f64 a, .float .f64 b, .float .f64 d] 26))
        rw [← hW0]
        clear hW0 B2
        generalize w2.heap.size = gt at *
        have HC : Hid (∀ z, Below W0.heap.size W0 z → z.cell? ⟨gt, 0, none⟩ = some (.int .i64 m) ∧ z.cell? ⟨gt, 1, none⟩ = some (.int .i64 o) ∧ z.cell? ⟨gt, 2, none⟩ = some (.float .f64 a) ∧ z.cell? ⟨gt, 3, none⟩ = some (.float .f64 b) ∧ z.cell? ⟨gt, 4, none⟩ = some (.float .f64 d)) := Lib.hid fun z hz => by
          have k1 := blk_below hgt hz
          exact ⟨(blk_cell k1 0).trans rfl, (blk_cell k1 1).trans rfl, (blk_cell k1 2).trans rfl, (blk_cell k1 3).trans rfl, (blk_cell k1 4).trans rfl⟩
        have HSM := Lib.hid (same_eq m o a b d HTF.out.1 HTF.out.2.1 HTF.out.2.2)
        have HOF2 : Hid (∀ z, Below W0.heap.size W0 z → Calls Tryd.prog 8 #[.slice A2 l.length c2] z fun e w' => e = .returned (.agg #[.int .i64 m, .int .i64 o, .float .f64 a, .float .f64 b, .float .f64 d]) ∧ Below z.heap.size z w') := Lib.hid fun z hz => by
          have h := of_tal A2 c2 L2 (by rw [HL2.out]; omega) HO64.out z (HA2.out.below (bthen hBW1 hz)) ⟨m, o, a, b, d⟩ ((tal_perm h64 HOL.out).trans HT0.out)
          rw [HL2.out] at h
          exact h
        have HSR : Hid (∀ z, Below W0.heap.size W0 z → Calls Tryd.prog 10 #[.slice A l.length c] z (SortOut l z)) := Lib.hid fun z hz => tsort_all A c l (by omega) h64 z (HA.out.below (bthen hBW hz))
        have HOF3 : Hid (∀ z g cap T M, RowF T z g M → M.Perm (canonL l) → Calls Tryd.prog 8 #[.slice (some ⟨g, 0, none⟩) l.length cap] z fun e w' => e = .returned (.agg #[.int .i64 m, .int .i64 o, .float .f64 a, .float .f64 b, .float .f64 d]) ∧ Below z.heap.size z w') := Lib.hid fun z g cap T M hM hp => by
          have hl' : M.length = l.length := hp.length_eq.trans (canonL_len l)
          have h := of_tal (some ⟨g, 0, none⟩) cap M (by rw [hl']; omega) ((canon64 h64).perm hp) z (arg_row hM) ⟨m, o, a, b, d⟩ ((tal_congr h64 (by have := hp.map canon; rw [show (canonL l).map canon = canonL (canonL l) from rfl, canonL_canonL] at this; exact this)).trans HT0.out)
          rw [hl'] at h
          exact h
        obtain ⟨k0, k1, k2, k3, k4⟩ := HC.out W0 (Below.refl _ _)
        have HBW := Lib.hid hBW
        have HBW1 := Lib.hid hBW1
        clear hgt hBW hBW1
        go_region_held3 (fun z => Below W0.heap.size W0 z ∧ z.cell? ⟨gt, 0, none⟩ = some (.int .i64 m) ∧ z.cell? ⟨gt, 1, none⟩ = some (.int .i64 o) ∧ z.cell? ⟨gt, 2, none⟩ = some (.float .f64 a) ∧ z.cell? ⟨gt, 3, none⟩ = some (.float .f64 b) ∧ z.cell? ⟨gt, 4, none⟩ = some (.float .f64 d)) ((refine ⟨?_, HC.out _ ?_⟩ <;> (repeat (first | (with_reducible exact Below.refl _ _) | (with_reducible refine Below.drew ?_) | (with_reducible refine bl_drewN ?_ _) | ((with_reducible apply bthen); rotate_left; assumption)))))
          (first | (go_at_call 9; (with_reducible refine (HSM.out _).mono ?_); rintro e w3 ⟨rfl, B3⟩) | (go_at_call 8; (with_reducible refine (HOF2.out _ (‹Below W0.heap.size W0 _ ∧ _›).1).mono ?_); rintro e w3 ⟨rfl, B3⟩) | (go_at_call 8; (with_reducible refine (HOF3.out _ _ _ _ _ (by assumption) (by assumption)).mono ?_); rintro e w3 ⟨rfl, B3⟩) | (go_at_call 10; (with_reducible refine (HSR.out _ (‹Below W0.heap.size W0 _ ∧ _›).1).mono ?_); rintro e w3 ⟨sg, scap, sT, sM, rfl, hsM, hsp, _, _, _, B3⟩))
        all_goals
          go_wp2_with fail
          have hS := ‹Below W0.heap.size W0 w3 ∧ _›
          obtain ⟨W4, hW4⟩ : ∃ W4, W4 = w3 := ⟨_, rfl⟩
          subst hW4
          have HB4 := Lib.hid hS.1
          clear hS
          go_loopw [8, 9] (fun pv iv wz => ∃ k : Nat, iv = .int .i64 k ∧ pv = .int .i64 (plainN (l.take k)) ∧ k ≤ l.length ∧ Hid (Below W0.heap.size W0 wz)) (fun _ iv _ => l.length - (RowKit.intOf iv).toNat)
          case atStart => exact ⟨0, rfl, rfl, Nat.zero_le _, HB4⟩
          case round =>
            clear HB4
            obtain ⟨k, rfl, rfl, hk, HBz⟩ := hrel
            have hpk : plainN (l.take k) ≤ k := Nat.le_trans (List.length_filter_le _ _) (by rw [List.length_take]; omega)
            by_cases hlt : k < l.length
            · have i1 : (k : Int) < l.length := by omega
              have i2 : (0 : Int) ≤ (k : Int) := by omega
              have wk : IntKind.i64.wrap ((k : Int) + 1) = (k : Int) + 1 := IntWalk.i64_in _ (by omega)
              obtain ⟨ad, rfl, HCA⟩ := HA.out (by omega)
              have ck := HCA _ (bthen HBW.out HBz.out) k hlt
              have HPT := Lib.hid (plainN_take l k hlt)
              have hx64 := h64.getD k
              have HXF : Hid (oddB (l.getD k 0) = false → rk a ≤ rk (l.getD k 0) ∧ rk (l.getD k 0) ≤ rk b) := Lib.hid (fun ho => HTX.out.2.2.2.2 _ (by rw [getD_lt hlt]; exact List.getElem_mem hlt) ho)
              clear HCA
              generalize l.getD k 0 = x at ck HPT hx64 HXF
              generalize plainN (l.take k) = pn at hpk HPT ⊢
              cases hn : nanB x
              · have hself := ordself_no hn
                have HIF := Lib.hid (isInf_at x _ (odd_ok x hx64))
                cases hi : gtB (x % 9223372036854775808)
                · have ho : oddB x = false := by unfold oddB; rw [hn, hi]; rfl
                  rw [hi] at HIF
                  have HPT2 : Hid (plainN (l.take (k + 1)) = pn + 1) := Lib.hid (by rw [HPT.out, ho]; rfl)
                  have wp : IntKind.i64.wrap ((pn : Int) + 1) = (pn : Int) + 1 := IntWalk.i64_in _ (by omega)
                  have hxf := HXF.out ho
                  have c1 : decide (0 < cp a x) = false := decide_eq_false (fun h => by have := (cp_zero a x).2.1 h; omega)
                  have c2 : decide (0 < cp x b) = false := decide_eq_false (fun h => by have := (cp_zero x b).2.1 h; omega)
                  have HC1 := Lib.hid (fun z => compare_any a x HTF.out.1 hx64 z)
                  have HC2 := Lib.hid (fun z => compare_any x b hx64 HTF.out.2.1 z)
                  have HC3 : Hid (∀ z, Calls Tryd.prog 12 #[.float .f64 x, .float .f64 x] z fun e w' => e = .returned (.int .i64 0) ∧ Below z.heap.size z w') := Lib.hid fun z => by
                    have := compare_any x x hx64 hx64 z
                    rw [cp_self] at this
                    exact this
                  have HMN := mean_one x hx64 ho
                  have HOF1 : Hid (∀ z : World, Calls Tryd.prog 8 #[.slice (some ⟨z.heap.size, 0, none⟩) 1 1] (z.alloc (.cells #[.float .f64 x] 24)) fun e w' => e = .returned (.agg #[.int .i64 1, .int .i64 0, .float .f64 x, .float .f64 x, .float .f64 (fdiv (fadd 0 x) (fint 1))]) ∧ Below z.heap.size z w') := Lib.hid fun z => by
                    have hR : RowF [] (z.alloc (.cells #[.float .f64 x] 24)) z.heap.size [x] := by unfold RowF; exact blk_new z _
                    refine (of_tal (some ⟨z.heap.size, 0, none⟩) 1 [x] (by show 1 ≤ 1000; decide) (fun y hy => by rw [List.mem_singleton.1 hy]; exact hx64) _ (arg_row hR) _ (tal_one ho)).mono ?_
                    rintro e z1 ⟨rfl, hB⟩
                    exact ⟨rfl, bthen ((Below.refl _ _).alloc (Nat.le_refl _) _) hB⟩
                  generalize cp a x = u1 at c1 HC1
                  generalize cp x b = u2 at c2 HC2
                  generalize fdiv (fadd 0 x) (fint 1) = mn at HMN HOF1
                  clear HXF hxf hn hi ho hx64
                  go_wp2_with fail
                  refine (HIF.out _).mono ?_
                  rintro e w5 ⟨rfl, rfl⟩
                  go_wp2_with fail
                  refine (HOF1.out _).mono ?_
                  rintro e w6 ⟨rfl, B6⟩
                  have HB6 := Lib.hid (bthen HBz.out B6)
                  clear B6
                  go_upto_region 19 with (fail)
                  obtain ⟨W7, hW7⟩ : ∃ W7, W7 = w6.alloc (.cells #[.int .i64 1, .int .i64 0, .float .f64 x, .float .f64 x, .float .f64 mn] 26) := ⟨_, rfl⟩
                  have hg7 : W7.heap[w6.heap.size]? = some (.cells #[.int .i64 1, .int .i64 0, .float .f64 x, .float .f64 x, .float .f64 mn] 26) := by rw [hW7]; exact blk_new w6 _
                  have hB7 : Below W0.heap.size W0 W7 := by rw [hW7]; exact HB6.out.alloc HB6.out.size _
                  change Code.wp _ _ _ _ (w6.alloc (.cells #[.int .i64 1, .int .i64 0, .float .f64 x, .float .f64 x, .float .f64 mn] 26))
                  rw [← hW7]
                  clear hW7
                  generalize w6.heap.size = g7 at *
                  have HC7 : Hid (∀ z, Below W7.heap.size W7 z → z.cell? ⟨gt, 2, none⟩ = some (.float .f64 a) ∧ z.cell? ⟨gt, 3, none⟩ = some (.float .f64 b) ∧ z.cell? ⟨g7, 2, none⟩ = some (.float .f64 x) ∧ z.cell? ⟨g7, 4, none⟩ = some (.float .f64 mn)) := Lib.hid fun z hz => by
                    have q := blk_below hg7 hz
                    obtain ⟨_, _, q2, q3, _⟩ := HC.out z (bthen hB7 hz)
                    exact ⟨q2, q3, (blk_cell q 2).trans rfl, (blk_cell q 4).trans rfl⟩
                  obtain ⟨q1, q2, q3, q4⟩ := HC7.out _ (Below.refl _ _)
                  have HB7 := Lib.hid hB7
                  clear hg7 hB7
                  go_wp2_with fail
                  refine (HC1.out _).mono ?_
                  rintro e w8 ⟨rfl, B8⟩
                  have HB8 := Lib.hid B8
                  clear B8 q1 q2 q3 q4
                  obtain ⟨q1, q2, q3, q4⟩ := HC7.out _ HB8.out
                  go_wp2_with fail
                  refine (HC2.out _).mono ?_
                  rintro e w9 ⟨rfl, B9⟩
                  have HB9 := Lib.hid (bthen HB8.out B9)
                  clear B9 q1 q2 q3 q4
                  obtain ⟨q1, q2, q3, q4⟩ := HC7.out _ HB9.out
                  go_wp2_with fail
                  refine (HC3.out _).mono ?_
                  rintro e w10 ⟨rfl, B10⟩
                  have HB10 := Lib.hid (bthen HB9.out B10)
                  clear B10 q1 q2 q3 q4
                  go_wp2_with fail
                  go_roundw
                  case rel => exact ⟨k + 1, by go_num, by rw [HPT2.out]; go_num, by omega, Lib.hid (bthen HB7.out HB10.out)⟩
                  case measure => simp [RowKit.intOf] <;> omega
                · have ho : oddB x = true := by unfold oddB; rw [hn, hi]; rfl
                  rw [hi] at HIF
                  have HPT2 : Hid (plainN (l.take (k + 1)) = pn) := Lib.hid (by rw [HPT.out, ho]; rfl)
                  clear HXF hn hi ho hx64
                  go_wp2_with fail
                  refine (HIF.out _).mono ?_
                  rintro e w5 ⟨rfl, rfl⟩
                  go_wp2_with fail
                  go_roundw
                  case rel => exact ⟨k + 1, by go_num, by rw [HPT2.out], by omega, HBz⟩
                  case measure => simp [RowKit.intOf] <;> omega
              · have hself := ordself_nan hn
                have ho : oddB x = true := by unfold oddB; rw [hn]; rfl
                have HPT2 : Hid (plainN (l.take (k + 1)) = pn) := Lib.hid (by rw [HPT.out, ho]; rfl)
                clear HXF hn ho hx64
                go_wp2_with fail
                go_roundw
                case rel => exact ⟨k + 1, by go_num, by rw [HPT2.out], by omega, HBz⟩
                case measure => simp [RowKit.intOf] <;> omega
            · have hke : k = l.length := by omega
              subst hke
              rw [List.take_length] at hpk ⊢
              obtain ⟨x1, x2, x3, x4, _⟩ := HTX.out
              have hm : m = l.length := x1
              have ho : o + plainN l = l.length := x2
              have x3' : plainN l = 0 → d = 9221120237041090561 ∧ rk b < rk a := x3
              have x4' : 0 < plainN l → rk a ≤ rk b := x4
              clear x1 x2 x3 x4 HTX HT0
              generalize plainN l = pn at hpk ho x3' x4' ⊢
              have eo : (o : Int) + (pn : Int) = (l.length : Int) := by omega
              have wo : IntKind.i64.wrap ((o : Int) + (pn : Int)) = (l.length : Int) := (IntWalk.i64_in _ (by omega)).trans eo
              have wl : IntKind.i64.wrap (l.length : Int) = (l.length : Int) := IntWalk.i64_in _ (by omega)
              have tl : ((l.length : Int) == (l.length : Int)) = true := by simp
              obtain ⟨q0, q1, q2, q3, q4⟩ := HC.out _ HBz.out
              rw [hm] at q0
              have HCM := Lib.hid (fun z => compare_any a b HTF.out.1 HTF.out.2.1 z)
              have hcz := (cp_zero a b).2
              have t3 : decide ((l.length : Int) < (l.length : Int)) = false := decide_eq_false (by omega)
              by_cases hp0 : 0 < pn
              · have tp : decide (0 < pn) = true := decide_eq_true (by omega)
                have hle : cp a b ≤ 0 := Int.not_lt.1 (fun h => by have := hcz.1 h; have := x4' hp0; omega)
                have tc : decide (cp a b ≤ 0) = true := decide_eq_true hle
                generalize cp a b = u at HCM tc
                clear hcz x3' x4' hle ho eo hm hp0
                go_wp2_with fail
                refine (HCM.out _).mono ?_
                rintro e w8 ⟨rfl, B8⟩
                have HB8 := Lib.hid (bthen HBz.out B8)
                clear B8 q0 q1 q2 q3 q4
                obtain ⟨q0, q1, q2, q3, q4⟩ := HC.out _ HB8.out
                go_wp2_with fail
                refine (awake5_any _ (HT.out.below (bthen HBW.out HB8.out))).mono ?_
                rintro e w9 ⟨rfl, B9⟩
                have HB9 := Lib.hid (bthen HBW.out (bthen HB8.out B9))
                clear B9
                go_wp2_with fail
                go_ret
                exact ⟨rfl, HB9.out⟩
              · have hpz : pn = 0 := by omega
                obtain ⟨hd, hrk⟩ := x3' hpz
                have tp : decide (0 < pn) = false := decide_eq_false (by omega)
                have hgt : ¬ cp a b ≤ 0 := fun h => by have := hcz.2 hrk; omega
                have tc : decide (cp a b ≤ 0) = false := decide_eq_false hgt
                have HIN := Lib.hid (isNaN_any d)
                rw [hd, show nanB 9221120237041090561 = true by decide +kernel] at HIN
                rw [hd] at HC q4
                generalize cp a b = u at HCM tc
                clear hcz x3' x4' hgt ho eo hm hp0 hd hrk hpz
                go_wp2_with fail
                refine (HCM.out _).mono ?_
                rintro e w8 ⟨rfl, B8⟩
                have HB8 := Lib.hid (bthen HBz.out B8)
                clear B8 q0 q1 q2 q3 q4
                obtain ⟨q0, q1, q2, q3, q4⟩ := HC.out _ HB8.out
                go_wp2_with fail
                refine (HIN.out _).mono ?_
                rintro e w10 ⟨rfl, rfl⟩
                go_wp2_with fail
                refine (awake5_any _ (HT.out.below (bthen HBW.out HB8.out))).mono ?_
                rintro e w9 ⟨rfl, B9⟩
                have HB9 := Lib.hid (bthen HBW.out (bthen HB8.out B9))
                clear B9
                go_wp2_with fail
                go_ret
                exact ⟨rfl, HB9.out⟩
end Go.Proofs.YtedllapajgcfeaaDoor
