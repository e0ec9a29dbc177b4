/-
  PursePlays: whatever is spent, whether it comes back, what was spent, and whether it is overspent, are the document's: the call returns true.
-/
import Derived.Test.YtjcjalobbgkcpaaAff
import Derived.Test.YtjcjalobbgkcpaaInts
namespace Go.Proofs.Ytjcjalobbgkcpaa
open Go.RowKit Go.Proofs.YtjcjalobbgkcpaaW.PrintWords

set_option maxRecDepth 100000 in
set_option maxHeartbeats 1600000 in
theorem plays_any (b : Nat) (hb : (Lit.float .f64 b).wf = true) (a0 : Option Addr) (cap : Nat) (zs : List Int) (_hl : zs.length ≤ maxLen) {w : World} (hz : IntsAt w .i64 a0 zs) (hr : ∀ n ∈ zs, IntKind.i64.min ≤ n ∧ n ≤ IntKind.i64.max) :
    Calls Try.prog 4 #[.float .f64 b, .slice a0 zs.length cap] w fun e w' => e = .returned (.bool true) ∧ Below w.heap.size w w' := by
  have hb' : b < 18446744073709551616 := by simpa [Lit.wf] using hb
  have HZ := Lib.hid hz
  have HR := Lib.hid hr
  clear hz hr hb
  by_cases h3 : 300 < zs.length
  · go_enter Try.func4, Try.ntmps4
    go_wp2_with fail
    refine (awake_any _).mono ?_
    rintro e w1 ⟨rfl, B1⟩
    go_wp2_with fail
    go_ret
    exact ⟨rfl, B1⟩
  · go_enter Try.func4, Try.ntmps4
    go_wp2_with fail
    refine (new_any _ _).mono ?_
    rintro e w1 ⟨rfl, rfl⟩
    have hB0 : Below w.heap.size w (w.alloc (.cells #[.float .f64 b, .int .u64 0] 49)) := (Below.refl _ _).alloc (Nat.le_refl _) _
    have hK0 : PB (w.alloc (.cells #[.float .f64 b, .int .u64 0] 49)) w.heap.size b 0 := blk_new w _
    generalize w.alloc (.cells #[.float .f64 b, .int .u64 0] 49) = W at hB0 hK0 ⊢
    have KK0 := Lib.hid hK0
    clear hK0
    go_wp2_with fail
    go_loopw [6, 7, 8, 9, 10] (fun v i _ _ _ wr => ∃ k s : Nat, k ≤ zs.length ∧ s ≤ 18446744073709551615 ∧ v = .int .u64 s ∧ i = .int .i64 k ∧ Below w.heap.size w wr ∧ Hid (PB wr w.heap.size b s)) (fun _ i _ _ _ _ => zs.length - (intOf i).toNat)
    case atStart => exact ⟨0, 0, by omega, by omega, rfl, rfl, hB0, KK0⟩
    case round =>
      clear hB0 KK0
      obtain ⟨k, s, hk, hs, rfl, rfl, HB, HK⟩ := hrel
      by_cases hlt : k < zs.length
      · obtain ⟨a, rfl, hab, hcell⟩ := HZ.out k hlt
        have hcell' : wr.cell? (a.add k) = some (.int .i64 zs[k]) := (HB.cell (p := a.add k) (by rw [add_block]; exact hab)).trans hcell
        have hn := HR.out zs[k] (List.getElem_mem hlt)
        have hn' : -9223372036854775808 ≤ zs[k] ∧ zs[k] ≤ 9223372036854775807 := hn
        have HC := Lib.hid hcell
        clear hn hcell
        have hm := more_le s zs[k] hs
        by_cases hov : Fl.aff b < s
        · have e1 : spn b s zs[k] = s := by unfold spn; rw [if_pos hov]
          go_wp2_with fail
          refine (raff_any b s hb' hs _).mono ?_
          rw [decide_eq_false (by omega)]
          rintro e w1 ⟨rfl, rfl⟩
          go_wp2_with fail
          refine (spends_any w.heap.size b s hs zs[k] hn' _ HK.out).mono ?_
          rw [e1, decide_eq_false (by omega)]
          rintro e w1 ⟨rfl, hO, hK⟩
          have HK1 := Lib.hid hK
          have HB1 := HB.trans (hO.below HB.size (fun k hk => by omega))
          clear hK hO HK HB e1
          go_wp2_with fail
          refine (spent_any w.heap.size b s _ HK1.out).mono ?_
          rintro e w2 ⟨rfl, rfl⟩
          go_wp2_with fail
          go_roundw
          case rel => exact ⟨k + 1, s, by omega, hs, rfl, by go_num, HB1, HK1⟩
          case measure => simp [intOf]; omega
        · have e1 : spn b s zs[k] = more s zs[k] := by unfold spn; rw [if_neg hov]
          by_cases hov2 : Fl.aff b < more s zs[k]
          · have HV := Lib.hid hov2
            clear hov2
            go_wp2_with fail
            refine (raff_any b s hb' hs _).mono ?_
            rw [decide_eq_true (by omega)]
            rintro e w1 ⟨rfl, rfl⟩
            go_wp2_with fail
            refine (spends_any w.heap.size b s hs zs[k] hn' _ HK.out).mono ?_
            rw [e1, decide_eq_false (by have := HV.out; omega)]
            rintro e w1 ⟨rfl, hO, hK⟩
            have HK1 := Lib.hid hK
            have HB1 := HB.trans (hO.below HB.size (fun k hk => by omega))
            have hc1 : w1.cell? (a.add k) = some (.int .i64 zs[k]) := (HB1.cell (p := a.add k) (by rw [add_block]; exact hab)).trans HC.out
            clear hK hO HK HB e1 hov hcell'
            go_wp2_with fail
            refine (rmore_any s hs zs[k] hn' _).mono ?_
            rintro e w2 ⟨rfl, rfl⟩
            go_wp2_with fail
            refine (raff_any b (more s zs[k]) hb' hm.1 _).mono ?_
            rw [decide_eq_false (by have := HV.out; omega)]
            rintro e w2 ⟨rfl, rfl⟩
            go_wp2_with fail
            refine (spent_any w.heap.size b _ _ HK1.out).mono ?_
            rintro e w2 ⟨rfl, rfl⟩
            go_wp2_with fail
            refine (over_k w.heap.size b _ true (by rw [decide_eq_true HV.out]) _ HK1.out).mono ?_
            rintro e w2 ⟨rfl, m, rfl⟩
            go_wp2_with fail
            go_roundw
            case rel => exact ⟨k + 1, more s zs[k], by omega, hm.1, rfl, by go_num, HB1.trans ⟨rfl, rfl, rfl, Nat.le_refl _, fun _ _ => rfl⟩, Lib.hid (pb_drewN HK1.out m)⟩
            case measure => simp [intOf]; omega
          · have HV := Lib.hid hov2
            clear hov2
            go_wp2_with fail
            refine (raff_any b s hb' hs _).mono ?_
            rw [decide_eq_true (by omega)]
            rintro e w1 ⟨rfl, rfl⟩
            go_wp2_with fail
            refine (spends_any w.heap.size b s hs zs[k] hn' _ HK.out).mono ?_
            rw [e1, decide_eq_true (by have := HV.out; omega)]
            rintro e w1 ⟨rfl, hO, hK⟩
            have HK1 := Lib.hid hK
            have HB1 := HB.trans (hO.below HB.size (fun k hk => by omega))
            have hc1 : w1.cell? (a.add k) = some (.int .i64 zs[k]) := (HB1.cell (p := a.add k) (by rw [add_block]; exact hab)).trans HC.out
            clear hK hO HK HB e1 hov hcell'
            go_wp2_with fail
            refine (rmore_any s hs zs[k] hn' _).mono ?_
            rintro e w2 ⟨rfl, rfl⟩
            go_wp2_with fail
            refine (raff_any b (more s zs[k]) hb' hm.1 _).mono ?_
            rw [decide_eq_true (by have := HV.out; omega)]
            rintro e w2 ⟨rfl, rfl⟩
            go_wp2_with fail
            refine (spent_any w.heap.size b _ _ HK1.out).mono ?_
            rintro e w2 ⟨rfl, rfl⟩
            go_wp2_with fail
            refine (over_k w.heap.size b _ false (by rw [decide_eq_false HV.out]) _ HK1.out).mono ?_
            rintro e w2 ⟨rfl, m, rfl⟩
            go_wp2_with fail
            go_roundw
            case rel => exact ⟨k + 1, more s zs[k], by omega, hm.1, rfl, by go_num, HB1.trans ⟨rfl, rfl, rfl, Nat.le_refl _, fun _ _ => rfl⟩, Lib.hid (pb_drewN HK1.out m)⟩
            case measure => simp [intOf]; omega
      · go_wp2_with fail
        refine (awake_any _).mono ?_
        rintro e w1 ⟨rfl, B1⟩
        go_wp2_with fail
        go_ret
        exact ⟨rfl, HB.trans (B1.mono HB.size)⟩
end Go.Proofs.Ytjcjalobbgkcpaa
