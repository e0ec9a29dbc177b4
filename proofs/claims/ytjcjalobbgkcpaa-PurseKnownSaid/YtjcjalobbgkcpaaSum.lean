/-
  PurseSum: what is spent by several Spends is as if spent at once; just what is left may be spent yet: the call returns true.
-/
import Derived.Test.YtjcjalobbgkcpaaLft
import Derived.Test.YtjcjalobbgkcpaaLf
import Derived.Test.YtjcjalobbgkcpaaInts
namespace Go.Proofs.Ytjcjalobbgkcpaa
open Go.RowKit Go.Proofs.YtjcjalobbgkcpaaW.PrintWords

/-- What is left. -/
def lfw (b s : Nat) : Nat := if Ieee.double.order b 0 = some .gt then (Ieee.double.sub (flo b) (floatOfInt .f64 s)).getD 0 else 0
theorem left_any (g b s : Nat) (hs : s ≤ Fl.aff b) (h53 : s < 9007199254740992) (w : World) (K : PB w g b s) :
    Calls Try.prog 11 #[.pointer (some ⟨g, 0, none⟩)] w fun e w' => e = .returned (.float .f64 (lfw b s)) ∧ ∃ n, w' = w.drewN n := by
  by_cases h : Ieee.double.order b 0 = some .gt
  · obtain ⟨hn, y, e1, e2⟩ := Fl.lf_facts b s h hs h53
    have e3 : lfw b s = y := by unfold lfw flo; rw [if_pos h, e1]; rfl
    have hy : y ≤ 9218868437227405312 := by
      rcases e2 with e2 | e2
      · exact e2.2
      · rw [e2.1]; exact Fl.nw_le _ e2.2.1
    rw [e3]
    exact left_of g b s y y w K (by omega) h hn e1 (Fl.pick_max y hy)
  · have e3 : lfw b s = 0 := by unfold lfw; rw [if_neg h]
    rw [e3]
    exact left_none g b s w K (Or.inr ⟨_, rfl, h⟩)
theorem lfw_cases (b s : Nat) (hs : s ≤ Fl.aff b) (h53 : s < 9007199254740992) : (4836865999795912704 ≤ lfw b s ∧ lfw b s ≤ 9218868437227405312) ∨ ∃ n, n < 9007199254740992 ∧ lfw b s = Fl.nw n ∧ (s + n < 18446744073709551615 → s + n = Fl.aff b) := by
  by_cases h : Ieee.double.order b 0 = some .gt
  · obtain ⟨hn, y, e1, e2⟩ := Fl.lf_facts b s h hs h53
    have e3 : lfw b s = y := by unfold lfw flo; rw [if_pos h, e1]; rfl
    rw [e3]
    rcases e2 with e2 | ⟨e2, e4, e5, e6⟩
    · exact Or.inl e2
    · refine Or.inr ⟨_, e4, e2, fun _ => by omega⟩
  · refine Or.inr ⟨0, by omega, ?_, fun _ => ?_⟩
    · unfold lfw; rw [if_neg h, Fl.nw_zero]
    · have : Fl.aff b = 0 := by rcases Fl.aff_cases b with g | g | g | g | g | g <;> first | exact g.2.2 | exact absurd g.2.1 h
      omega

theorem more_small (s : Nat) (n : Int) (h0 : 0 ≤ n) (h1 : n < 1099511627776) (h2 : s ≤ 329853488332800) : more s n = s + n.toNat := by
  unfold more
  split <;> omega
theorem more_zero (s : Nat) (h : s ≤ 18446744073709551615) : more 0 (s : Int) = s := by
  unfold more
  split <;> omega
theorem more_nat (s n : Nat) (h : s + n ≤ 18446744073709551615) : more s (n : Int) = s + n := by
  unfold more
  split <;> omega
set_option maxRecDepth 100000 in
set_option maxHeartbeats 3200000 in
theorem sum_any (b : Nat) (_hb : (Lit.float .f64 b).wf = true) (a0 : Option Addr) (cap : Nat) (zs : List Int) (_hl : zs.length ≤ maxLen) {w : World} (hz : IntsAt w .u64 a0 zs) (hr : ∀ n ∈ zs, IntKind.u64.min ≤ n ∧ n ≤ IntKind.u64.max) :
    Calls Try.prog 7 #[.float .f64 b, .slice a0 zs.length cap] w fun e w' => e = .returned (.bool true) ∧ Below w.heap.size w w' := by
  have HZ := Lib.hid hz
  have HR := Lib.hid hr
  clear hz hr
  by_cases h3 : 300 < zs.length
  · go_enter Try.func7, Try.ntmps7
    go_wp2_with fail
    refine (awake_any _).mono ?_
    rintro e w1 ⟨rfl, B1⟩
    go_wp2_with fail
    go_ret
    exact ⟨rfl, B1⟩
  · go_enter Try.func7, Try.ntmps7
    go_wp2_with fail
    refine (new_any _ _).mono ?_
    rintro e w1 ⟨rfl, rfl⟩
    have hB0 : Below w.heap.size w (w.alloc (.cells #[.float .f64 b, .int .u64 0] 49)) := (Below.refl _ _).alloc (Nat.le_refl _) _
    have hK0 : PB (w.alloc (.cells #[.float .f64 b, .int .u64 0] 49)) w.heap.size b 0 := blk_new w _
    generalize w.alloc (.cells #[.float .f64 b, .int .u64 0] 49) = W at hB0 hK0 ⊢
    have KK0 := Lib.hid hK0
    clear hK0
    go_wp2_with fail
    go_loopw [6, 7, 8] (fun v i _ wr => ∃ k s : Nat, k ≤ zs.length ∧ s ≤ k * 1099511627776 ∧ s ≤ Fl.aff b ∧ v = .int .i64 s ∧ i = .int .i64 k ∧ Below w.heap.size w wr ∧ Hid (PB wr w.heap.size b s)) (fun _ i _ _ => zs.length - (intOf i).toNat)
    case atStart => exact ⟨0, 0, by omega, by omega, by omega, rfl, rfl, hB0, KK0⟩
    case round =>
      clear hB0 KK0
      obtain ⟨k, s, hk, hs, hsa, rfl, rfl, HB, HK⟩ := hrel
      by_cases hlt : k < zs.length
      · obtain ⟨a, rfl, hab, hcell⟩ := HZ.out k hlt
        have hcell' : wr.cell? (a.add k) = some (.int .u64 zs[k]) := (HB.cell (p := a.add k) (by rw [add_block]; exact hab)).trans hcell
        have hn := HR.out zs[k] (List.getElem_mem hlt)
        have hn' : 0 ≤ zs[k] ∧ zs[k] ≤ 18446744073709551615 := hn
        clear hn hcell
        have hmr := more_small s (zs[k] % 1099511627776) (by omega) (by omega) (by omega)
        have hsp : spn b s (zs[k] % 1099511627776) = s + (zs[k] % 1099511627776).toNat := by unfold spn; rw [if_neg (by omega), hmr]
        clear hmr
        have hle : (zs[k] % 1099511627776).toNat < 1099511627776 := by omega
        by_cases hgo : s + (zs[k] % 1099511627776).toNat ≤ Fl.aff b
        · have HS := Lib.hid hsp
          have HG := Lib.hid hgo
          clear hsp hgo
          go_wp2_with fail
          refine (spends_k w.heap.size b s _ true (by omega) _ (by omega) HS.out (by have := HG.out; simp; omega) _ HK.out).mono ?_
          rintro e w1 ⟨rfl, hO, hK⟩
          have HK1 := Lib.hid hK
          have HB1 := HB.trans (hO.below HB.size (fun k hk => by omega))
          clear hK hO HK HB
          go_wp2_with fail
          go_roundw
          case rel => exact ⟨k + 1, s + (zs[k] % 1099511627776).toNat, by omega, by omega, HG.out, by congr 1; omega, by go_num, HB1, HK1⟩
          case measure => simp [intOf]; omega
        · have HS := Lib.hid hsp
          have HG := Lib.hid hgo
          clear hsp hgo
          go_wp2_with fail
          refine (spends_k w.heap.size b s _ false (by omega) _ (by omega) HS.out (by have := HG.out; simp; omega) _ HK.out).mono ?_
          rintro e w1 ⟨rfl, hO, hK⟩
          have HB1 := HB.trans (hO.below HB.size (fun k hk => by omega))
          clear hK hO HK HB
          go_wp2_with fail
          refine (awake_any _).mono ?_
          rintro e w5 ⟨rfl, B1⟩
          have hB2 : Below w.heap.size w w5 := HB1.trans (B1.mono HB1.size)
          clear B1
          go_wp2_with fail
          go_ret
          exact ⟨rfl, hB2⟩
      · have hs53 : s < 9007199254740992 := by omega
        have hsi : (s : Int) ≤ 9007199254740991 := by omega
        have hgs := blk_lt HK.out
        go_wp2_with fail
        refine (new_any _ _).mono ?_
        rintro e w1 ⟨rfl, rfl⟩
        have hQ : PB (wr.alloc (.cells #[.float .f64 b, .int .u64 0] 49)) wr.heap.size b 0 := blk_new wr _
        have hP : PB (wr.alloc (.cells #[.float .f64 b, .int .u64 0] 49)) w.heap.size b s := blk_alloc HK.out _
        have HB1 := HB.alloc HB.size (.cells #[.float .f64 b, .int .u64 0] 49)
        have HQ := Lib.hid hQ
        have HP := Lib.hid hP
        clear hQ hP HB
        have hsz := HB1.size
        go_wp2_with fail
        refine (spends_k wr.heap.size b 0 s true (by omega) s (by omega) (by rw [spn, if_neg (by omega)]; exact more_zero s (by omega)) (by simp; omega) _ HQ.out).mono ?_
        rintro e W2 ⟨rfl, hO, hQ2⟩
        have hP2 := hO.blk HP.out (by omega)
        have HB2 := HB1.trans (hO.below HB1.size (fun k hk => by omega))
        have HQ2 := Lib.hid hQ2
        have HP2 := Lib.hid hP2
        clear hQ2 hP2 hO HB1 HQ HP
        have hL := lfw_cases b s hsa hs53
        have HLA := Lib.hid (fun g w K => left_any g b s hsa hs53 w K)
        generalize lfw b s = L at hL HLA
        have hy : L ≤ 9218868437227405312 := by
          rcases hL with e2 | ⟨n, e2, e3, _⟩
          · exact e2.2
          · rw [e3]; exact Fl.nw_le _ e2
        obtain ⟨_, hnn, _⟩ := Fl.fine_of hy
        have hLL : FloatKind.f64.format.order L L = some .eq := Fl.ord_self hnn
        have HNN := Lib.hid hnn
        clear hnn hy
        have hbig : FloatKind.f64.format.order L 4832362400168542208 = some .gt ∨ ∃ n, n ≤ 1125899906842624 ∧ Hid (L = Fl.nw n) ∧ Hid (s + n = Fl.aff b) ∧ (FloatKind.f64.format.order L 4832362400168542208 = some .lt ∨ FloatKind.f64.format.order L 4832362400168542208 = some .eq) ∧ (FloatKind.f64.format.order L 0 = some .gt ∨ FloatKind.f64.format.order L 0 = some .eq) := by
          rcases hL with e2 | ⟨n, e2, e3, e4⟩
          · exact Or.inl (Fl.ord_lim e2.1 e2.2)
          · have o1 : FloatKind.f64.format.order L 4832362400168542208 = some (compare (n : Int) (1125899906842624 : Nat)) := by rw [e3]; exact Fl.nw_key n e2 _ Fl.lim_fine _ Fl.V_lim
            have o2 : FloatKind.f64.format.order L 0 = some (compare (n : Int) (0 : Nat)) := by rw [e3]; exact Fl.nw_key n e2 0 (by omega) 0 (by rw [Fl.V_zero, Nat.zero_mul])
            rw [o1, o2]
            rcases Int.lt_trichotomy (n : Int) ((1125899906842624 : Nat) : Int) with g | g | g
            · right
              refine ⟨n, by omega, Lib.hid e3, Lib.hid (e4 (by omega)), Or.inl (by rw [Int.compare_eq_lt.2 g]), ?_⟩
              rcases Int.lt_trichotomy (n : Int) ((0 : Nat) : Int) with g2 | g2 | g2
              · omega
              · right; rw [Int.compare_eq_eq.2 g2]
              · left; rw [Int.compare_eq_gt.2 g2]
            · right
              refine ⟨n, by omega, Lib.hid e3, Lib.hid (e4 (by omega)), Or.inr (by rw [Int.compare_eq_eq.2 g]), ?_⟩
              left; rw [Int.compare_eq_gt.2 (by omega)]
            · left; rw [Int.compare_eq_gt.2 g]
        clear hL
        have HLL := Lib.hid hLL
        rcases hbig with ho | ⟨n, hn1, HLN, HSN, ho | ho, hz | hz⟩
        all_goals
          go_wp2_with fail
          refine (spent_any wr.heap.size b s _ HQ2.out).mono ?_
          rintro e w2 ⟨rfl, rfl⟩
          go_wp2_with fail
          refine (spent_any w.heap.size b s _ HP2.out).mono ?_
          rintro e w2 ⟨rfl, rfl⟩
          go_wp2_with fail
          refine (spent_any wr.heap.size b s _ HQ2.out).mono ?_
          rintro e w2 ⟨rfl, rfl⟩
          go_wp2_with fail
          refine (HLA.out w.heap.size _ HP2.out).mono ?_
          rintro e w2 ⟨rfl, m1, rfl⟩
          go_wp2_with fail
          refine (HLA.out wr.heap.size _ (pb_drewN HQ2.out m1)).mono ?_
          rintro e w2 ⟨rfl, m2, rfl⟩
          go_wp2_with fail
          refine (HLA.out w.heap.size _ (pb_drewN HP2.out _)).mono ?_
          rintro e w2 ⟨rfl, m3, rfl⟩
          have HB3 : Below w.heap.size w (W2.drewN (m1 + m2 + m3)) := HB2.trans ⟨rfl, rfl, rfl, Nat.le_refl _, fun _ _ => rfl⟩
          have HP3 := Lib.hid (pb_drewN HP2.out (m1 + m2 + m3))
          go_wp2_with fail
        · refine (awake_any _).mono ?_
          rintro e w5 ⟨rfl, B1⟩
          have hB2 : Below w.heap.size w w5 := HB3.trans (B1.mono HB3.size)
          clear B1
          go_wp2_with fail
          go_ret
          exact ⟨rfl, hB2⟩
        all_goals
          have hfl : flo L = L := by unfold flo; rw [HLN.out]; exact Fl.nw_floor n (by omega)
          have hfa := Lib.hid (fun w => floor_any L HNN.out w)
          rw [hfl] at hfa
          have hiv : floatToIntVal .f64 L .i64 = some (n : Int) := by rw [HLN.out]; exact Fl.nw_int n (by omega)
          have hcv := fun w => run_convert_float_int (P := Try.prog) w 24 3 .f64 .i64 L _ (by rw [Try.underlying24]; rfl) Try.underlying3 hiv
          clear hfl hiv
          refine (isNaN_of L HLL.out _).mono ?_
          rintro e w2 ⟨rfl, rfl⟩
          go_wp2_with fail
          refine (hfa.out _).mono ?_
          rintro e w2 ⟨rfl, rfl⟩
          go_wp2_with fail
          refine (spends_k w.heap.size b s (s + n) true (by omega) n (by omega) (by rw [spn, if_neg (by omega)]; exact more_nat s n (by omega)) (by have := HSN.out; simp; omega) _ HP3.out).mono ?_
          rintro e W4 ⟨rfl, hO, hK⟩
          have HB4 := HB3.trans (hO.below HB3.size (fun k hk => by omega))
          have HK4 := Lib.hid hK
          clear hO hK HB3 HP3
          go_wp2_with fail
          refine (spends_k w.heap.size b (s + n) (s + n + 1) false (by omega) 1 (by omega) (by rw [spn, if_neg (by have := HSN.out; omega)]; exact more_nat (s + n) 1 (by omega)) (by have := HSN.out; simp; omega) _ HK4.out).mono ?_
          rintro e W5 ⟨rfl, hO, hK⟩
          have HB5 := HB4.trans (hO.below HB4.size (fun k hk => by omega))
          clear hO hK HB4 HK4
          go_wp2_with fail
          refine (awake_any _).mono ?_
          rintro e w5 ⟨rfl, B1⟩
          have hB2 : Below w.heap.size w w5 := HB5.trans (B1.mono HB5.size)
          clear B1
          go_wp2_with fail
          go_ret
          exact ⟨rfl, hB2⟩
end Go.Proofs.Ytjcjalobbgkcpaa
