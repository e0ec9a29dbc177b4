/-
  Law 07's open: walked.
-/
import Derived.Test.YtebkaajnnjfhjaaDoorBk
import Derived.Test.YtebkaajnnjfhjaaDoorLike
namespace Go.Proofs.YtebkaajnnjfhjaaDoor
set_option linter.unusedVariables false
set_option linter.unusedSimpArgs false
open Go.RowKit Go.Proofs.YtebkaajnnjfhjaaDoorW.PrintWords
open Tr (Nd Pt T R sz rootI post ndsL ptsL szL)

namespace Tr
end Tr
theorem Tr.opn_drop (l : List UInt8) (k : Nat) (h : k < l.length) (n m : Int) (i : Bool) : Tr.opn (l.drop k) n m i = if l[k] = 92 then Tr.opn (l.drop (k + 2)) n m i else Tr.opn (l.drop (k + 1)) (Tr.stp l[k] n i).1 (Tr.mstp l[k] n m i) (Tr.stp l[k] n i).2 := by
  by_cases h92 : l[k] = 92
  · have e : Tr.stp 92 n i = (n, i) := by unfold Tr.stp; rw [if_pos rfl]
    have e' : Tr.mstp 92 n m i = m := by unfold Tr.mstp; rw [if_pos rfl]
    rw [List.drop_eq_getElem_cons h, Tr.opn, if_pos h92, if_pos h92, h92, e, e', List.drop_drop]
  · rw [if_neg h92, List.drop_eq_getElem_cons h, Tr.opn_plain h92]
set_option maxRecDepth 100000 in
set_option maxHeartbeats 3200000 in
theorem open_any (l : List UInt8) (hl : l.length ≤ 1000000000) (w : World) : Calls Tryd.prog 22 #[.string ⟨l.toArray⟩] w fun e w' => e = .returned (.int .i64 (Tr.opn l 0 0 false)) ∧ w = w' := by
  go_enter Tryd.func22, Tryd.ntmps22
  go_wp2_with fail
  go_loop [3, 4, 5, 6] (fun v3 v4 v5 v6 => ∃ (k : Nat) (n m : Int) (b : Bool), k ≤ l.length + 1 ∧ v3 = .int .i64 n ∧ v4 = .int .i64 m ∧ v5 = .bool b ∧ v6 = .int .i64 k ∧ Hid (Tr.opn (l.drop k) n m b = Tr.opn l 0 0 false) ∧ -(k : Int) ≤ n ∧ n ≤ k ∧ 0 ≤ m ∧ m ≤ k) (fun _ _ _ v6 => l.length + 1 - (RowKit.intOf v6).toNat)
  case atStart => exact ⟨0, 0, 0, false, by omega, rfl, rfl, rfl, rfl, Lib.hid rfl, by omega, by omega, by omega, by omega⟩
  case round =>
    obtain ⟨k, n, m, b, hk, rfl, rfl, rfl, rfl, HO, n1, n2, m1, m2⟩ := hrel
    by_cases hlt : k < l.length
    · obtain ⟨c, hcl⟩ : ∃ c, l[k] = c := ⟨_, rfl⟩
      have HCL := Lib.hid hcl
      have hd0 := (Tr.opn_drop l k hlt n m b).symm.trans HO.out
      rw [hcl] at hd0
      have HD := Lib.hid hd0
      clear hd0 hcl
      have e1 : (k : Int) < l.length := by omega
      have e2 : (0 : Int) ≤ k := by omega
      have w1 : IntKind.i64.wrap ((k : Int) + 1) = (k : Int) + 1 := IntWalk.i64_in _ (by omega)
      have w2 : IntKind.i64.wrap ((k : Int) + 1 + 1) = (k : Int) + 1 + 1 := IntWalk.i64_in _ (by omega)
      have w3 : IntKind.i64.wrap (n + 1) = n + 1 := IntWalk.i64_in _ (by omega)
      have w4 : IntKind.i64.wrap (n - 1) = n - 1 := IntWalk.i64_in _ (by omega)
      clear HO
      cases h92 : c == (92 : UInt8)
      · have t92 : ((l[k].toNat : Int) == 92) = false := by have := u8_beq c 92; rw [h92] at this; rw [HCL.out]; exact this
        have H92 : Hid (¬ c = 92) := Lib.hid (by simpa using h92)
        clear h92
        replace HD := Lib.hid ((if_neg H92.out).symm.trans HD.out)
        cases b
        · cases h91 : c == (91 : UInt8)
          · have t91 : ((l[k].toNat : Int) == 91) = false := by have := u8_beq c 91; rw [h91] at this; rw [HCL.out]; exact this
            have H91 : Hid (¬ c = 91) := Lib.hid (by simpa using h91)
            clear h91
            cases h40 : c == (40 : UInt8)
            · have t40 : ((l[k].toNat : Int) == 40) = false := by have := u8_beq c 40; rw [h40] at this; rw [HCL.out]; exact this
              have H40 : Hid (¬ c = 40) := Lib.hid (by simpa using h40)
              clear h40
              cases h41 : c == (41 : UInt8)
              · have t41 : ((l[k].toNat : Int) == 41) = false := by have := u8_beq c 41; rw [h41] at this; rw [HCL.out]; exact this
                have H41 : Hid (¬ c = 41) := Lib.hid (by simpa using h41)
                clear h41
                go_wp2_with fail
                go_round
                case rel => exact ⟨k + 1, n, m, false, by omega, rfl, rfl, rfl, by go_num, Lib.hid (by rw [← HD.out]; unfold Tr.stp Tr.mstp; simp [H92.out, H91.out, H40.out, H41.out]), by omega, by omega, by omega, by omega⟩
                case measure => simp [RowKit.intOf]; omega
              · have t41 : ((l[k].toNat : Int) == 41) = true := by have := u8_beq c 41; rw [h41] at this; rw [HCL.out]; exact this
                have H41 : Hid (c = 41) := Lib.hid (by simpa using h41)
                clear h41
                go_wp2_with fail
                go_round
                case rel => exact ⟨k + 1, n - 1, m, false, by omega, rfl, rfl, rfl, by go_num, Lib.hid (by rw [← HD.out, H41.out]; unfold Tr.stp Tr.mstp; simp), by omega, by omega, by omega, by omega⟩
                case measure => simp [RowKit.intOf]; omega
            · have t40 : ((l[k].toNat : Int) == 40) = true := by have := u8_beq c 40; rw [h40] at this; rw [HCL.out]; exact this
              have H40 : Hid (c = 40) := Lib.hid (by simpa using h40)
              clear h40
              go_wp2_with fail
              go_round
              case rel => exact ⟨k + 1, n + 1, max m (n + 1), false, by omega, rfl, rfl, rfl, by go_num, Lib.hid (by rw [← HD.out, H40.out]; unfold Tr.stp Tr.mstp; simp), by omega, by omega, by omega, by omega⟩
              case measure => simp [RowKit.intOf]; omega
          · have t91 : ((l[k].toNat : Int) == 91) = true := by have := u8_beq c 91; rw [h91] at this; rw [HCL.out]; exact this
            have H91 : Hid (c = 91) := Lib.hid (by simpa using h91)
            clear h91
            go_wp2_with fail
            go_round
            case rel => exact ⟨k + 1, n, m, true, by omega, rfl, rfl, rfl, by go_num, Lib.hid (by rw [← HD.out, H91.out]; unfold Tr.stp Tr.mstp; simp), by omega, by omega, by omega, by omega⟩
            case measure => simp [RowKit.intOf]; omega
        · cases h93 : c == (93 : UInt8)
          · have t93 : ((l[k].toNat : Int) == 93) = false := by have := u8_beq c 93; rw [h93] at this; rw [HCL.out]; exact this
            have t93n : ((l[k].toNat : Int) != 93) = true := by unfold bne; rw [t93]; rfl
            have H93 : Hid (¬ c = 93) := Lib.hid (by simpa using h93)
            clear h93
            go_wp2_with fail
            go_round
            case rel => exact ⟨k + 1, n, m, true, by omega, rfl, rfl, rfl, by go_num, Lib.hid (by rw [← HD.out]; unfold Tr.stp Tr.mstp; simp only [H92.out, if_false, if_true]; rw [show (c != 93) = true by simpa using H93.out]), by omega, by omega, by omega, by omega⟩
            case measure => simp [RowKit.intOf]; omega
          · have t93 : ((l[k].toNat : Int) == 93) = true := by have := u8_beq c 93; rw [h93] at this; rw [HCL.out]; exact this
            have t93n : ((l[k].toNat : Int) != 93) = false := by unfold bne; rw [t93]; rfl
            have H93 : Hid (c = 93) := Lib.hid (by simpa using h93)
            clear h93
            go_wp2_with fail
            go_round
            case rel => exact ⟨k + 1, n, m, false, by omega, rfl, rfl, rfl, by go_num, Lib.hid (by rw [← HD.out, H93.out]; unfold Tr.stp Tr.mstp; simp), by omega, by omega, by omega, by omega⟩
            case measure => simp [RowKit.intOf]; omega
      · have t92 : ((l[k].toNat : Int) == 92) = true := by have := u8_beq c 92; rw [h92] at this; rw [HCL.out]; exact this
        have H92 : c = 92 := by simpa using h92
        replace HD := Lib.hid ((if_pos H92).symm.trans HD.out)
        clear h92 H92
        go_wp2_with fail
        go_round
        case rel => exact ⟨k + 2, n, m, b, by omega, rfl, rfl, rfl, by go_num, HD, by omega, by omega, by omega, by omega⟩
        case measure => simp [RowKit.intOf]; omega
    · have e1 : decide ((k : Int) < l.length) = false := decide_eq_false (by omega)
      have HE : Hid (m = Tr.opn l 0 0 false) := Lib.hid (by rw [← HO.out, List.drop_eq_nil_of_le (by omega), Tr.opn])
      go_wp2_with fail
      rw [← HE.out]
      go_ret
      exact ⟨rfl, rfl⟩
end Go.Proofs.YtebkaajnnjfhjaaDoor
namespace Go.Proofs.YtebkaajnnjfhjaaDoor
set_option linter.unusedVariables false
set_option linter.unusedSimpArgs false
open Go.RowKit Go.Proofs.YtebkaajnnjfhjaaDoorW.PrintWords
open Tr (Nd Pt T R sz rootI post ndsL ptsL szL)

set_option maxRecDepth 100000 in
set_option maxHeartbeats 6400000 in
theorem alike7_any {w : World} {A A' B B' : Option Addr} {ns ms : List Nd} {ps qs : List Pt} (c c' d d' : Nat) (h : TreeAt w A A' ns ps) (k : TreeAt w B B' ms qs) (hg : Tr.Good ns ps) (hg' : Tr.Good ms qs) (ht : Tr.trees ns ps = Tr.trees ms qs) :
    Calls Tryd.prog 23 #[.agg #[.slice A ns.length c, .slice A' ps.length c'], .agg #[.slice B ms.length d, .slice B' qs.length d']] w fun e w' => e = .returned (.bool true) ∧ Below w.heap.size w w' := by
  have HH := Lib.hid h
  have HK := Lib.hid k
  have HG := Lib.hid (And.intro hg hg')
  have hlen : qs.length = ps.length := by have := congrArg List.length ht; simp [Tr.trees] at this; omega
  have HT := Lib.hid ht
  have HLN := Lib.hid hlen
  have hp20 := HG.out.1.p2
  rw [hlen]
  clear h k hg hg' ht
  go_enter Tryd.func23, Tryd.ntmps23
  go_wp2_with fail
  obtain ⟨X, hX⟩ : ∃ X, X = (w.alloc (.cells #[.slice A ns.length c, .slice A' ps.length c'] 33)).alloc (.cells #[.slice B ms.length d, .slice B' ps.length d'] 33) := ⟨_, rfl⟩
  have hBX : Below w.heap.size w X := by rw [hX]; (repeat (first | exact Below.refl _ _ | assumption | refine Below.drew ?_ | refine Below.alloc ?_ (by first | exact Nat.le_refl _ | (simp; done) | (simp; omega) | omega) _ | refine Below.setCell ?_ (by first | exact Nat.le_refl _ | (simp; done) | (simp; omega) | omega) _))
  have hb0 : X.heap[w.heap.size]? = some (.cells #[.slice A ns.length c, .slice A' ps.length c'] 33 (0, 0)) := by rw [hX]; exact blk_alloc (blk_new w _) _
  have hb1 : X.heap[w.heap.size + 1]? = some (.cells #[.slice B ms.length d, .slice B' ps.length d'] 33 (0, 0)) := by rw [hX]; exact rblk_new_at _ _ _ (by simp)
  rw [← hX]
  have HB0 := Lib.hid hb0
  have HB1 := Lib.hid hb1
  have HBX := Lib.hid hBX
  have HHX := Lib.hid (HH.out.below hBX)
  have HKX := Lib.hid (HK.out.below hBX)
  clear hb0 hb1 hBX hX HH HK
  obtain ⟨a, hwa⟩ : ∃ a, w.heap.size = a := ⟨_, rfl⟩
  have HWA := Lib.hid hwa
  rw [hwa] at HB0 HB1 HBX ⊢
  clear hwa
  have HCX : Hid (∀ z, Below X.heap.size X z → z.cell? ⟨a, 0, none⟩ = some (.slice A ns.length c) ∧ z.cell? ⟨a, 1, none⟩ = some (.slice A' ps.length c') ∧ z.cell? ⟨a + 1, 0, none⟩ = some (.slice B ms.length d) ∧ z.cell? ⟨a + 1, 1, none⟩ = some (.slice B' ps.length d')) := Lib.hid fun z hz => by
    have k0 := blk_below HB0.out hz
    have k1 := blk_below HB1.out hz
    exact ⟨(blk_cell k0 0).trans rfl, (blk_cell k0 1).trans rfl, (blk_cell k1 0).trans rfl, (blk_cell k1 1).trans rfl⟩
  have hX0 := HCX.out X (Below.refl _ _)
  obtain ⟨x0, x1, x2, x3⟩ := hX0
  go_loopw [5] (fun i wr => ∃ q : Nat, q ≤ ps.length ∧ i = .int .i64 q ∧ Below X.heap.size X wr) (fun i _ => ps.length - (RowKit.intOf i).toNat)
  case atStart => exact ⟨0, by omega, rfl, Below.refl _ _⟩
  case round =>
    obtain ⟨q, hq, rfl, HBR⟩ := hrel
    clear x0 x1 x2 x3
    obtain ⟨x0, x1, x2, x3⟩ := HCX.out _ HBR
    by_cases hlt : q < ps.length
    · obtain ⟨g, hgA, hab, hN0, hN1⟩ := HHX.out.parts q hlt
      obtain ⟨b, hgB, hbb, hM0, hM1⟩ := HKX.out.parts q (by rw [HLN.out]; exact hlt)
      subst hgA hgB
      have r1 := HG.out.1.rt ps[q] (List.getElem_mem _)
      have hq2 : q < qs.length := by rw [HLN.out]; exact hlt
      have r2 := HG.out.2.rt qs[q] (List.getElem_mem _)
      have he : (ps[q].no, Tr.tr ns ps[q].root.toNat) = (qs[q].no, Tr.tr ms qs[q].root.toNat) := by
        have := congrArg (·[q]?) HT.out
        simpa [Tr.trees, hlt, hq2] using this
      have hno : qs[q].no = ps[q].no := (congrArg Prod.fst he).symm
      have htr : Tr.tr ns ps[q].root.toNat = Tr.tr ms qs[q].root.toNat := congrArg Prod.snd he
      obtain ⟨i, hi⟩ := Int.eq_ofNat_of_zero_le r1.1
      obtain ⟨j, hj⟩ := Int.eq_ofNat_of_zero_le r2.1
      rw [hno] at hM1
      rw [hi] at hN0 r1 htr
      rw [hj] at hM0 r2 htr
      generalize ps[q].no = no at *
      rw [Int.toNat_natCast, Int.toNat_natCast] at htr
      have hlk : Tr.likeF ns ms (i + 1) i j = true := by
        rw [Tr.like_tr HG.out.1.dn HG.out.2.dn HG.out.1.my HG.out.2.my (i + 1) i j (by omega) (by omega) (by omega)]
        exact decide_eq_true htr
      have HCALL : Hid (∀ z, Below X.heap.size X z → Calls Tryd.prog 19 #[.agg #[.slice A ns.length c, .slice (some g) ps.length c'], .agg #[.slice B ms.length d, .slice (some b) ps.length d'], .int .i64 i, .int .i64 j] z fun e w' => e = .returned (.bool true) ∧ Below z.heap.size z w') := Lib.hid fun z hz => by
        have := alike_f A (some g) B (some b) ns ms ps qs c c' d d' HG.out.1.dn HG.out.2.dn (i + 1) i j (by omega) (by omega) (by omega) z (HHX.out.below hz) (HKX.out.below hz)
        rw [hlk, HLN.out] at this
        exact this
      have e2 : (q : Int) < ps.length := by omega
      have e3 : (0 : Int) ≤ (q : Int) := by omega
      have HCC : Hid (∀ z, Below X.heap.size X z → z.cell? ⟨a, 0, none⟩ = some (.slice A ns.length c) ∧ z.cell? ⟨a, 1, none⟩ = some (.slice (some g) ps.length c') ∧ z.cell? ⟨a + 1, 0, none⟩ = some (.slice B ms.length d) ∧ z.cell? ⟨a + 1, 1, none⟩ = some (.slice (some b) ps.length d') ∧ z.cell? (g.add (q * 2)) = some (.int .i64 (i : Int)) ∧ z.cell? ⟨(g.add (q * 2)).block, (g.add (q * 2)).off + 1, none⟩ = some (.bool no) ∧ z.cell? (b.add (q * 2)) = some (.int .i64 (j : Int)) ∧ z.cell? ⟨(b.add (q * 2)).block, (b.add (q * 2)).off + 1, none⟩ = some (.bool no)) := Lib.hid fun z hz => by
        obtain ⟨y0, y1, y2, y3⟩ := HCX.out _ hz
        exact ⟨y0, y1, y2, y3, (hz.cell (p := g.add (q * 2)) (by rw [add_block]; exact hab)).trans hN0, (hz.cell (p := ⟨(g.add (q * 2)).block, (g.add (q * 2)).off + 1, none⟩) (by show (g.add (q * 2)).block < _; rw [add_block]; exact hab)).trans hN1, (hz.cell (p := b.add (q * 2)) (by rw [add_block]; exact hbb)).trans hM0, (hz.cell (p := ⟨(b.add (q * 2)).block, (b.add (q * 2)).off + 1, none⟩) (by show (b.add (q * 2)).block < _; rw [add_block]; exact hbb)).trans hM1⟩
      clear hN0 hN1 hM0 hM1 hab hbb x0 x1 x2 x3 r1 r2 he hno htr hi hj hlk hq2
      have K1 := HCC.out _ HBR
      have HB := HBR
      clear HBR
      have hnn : (no != no) = false := by simp
      go_wp2_with fail
      all_goals go_region_held3 (fun z => Below X.heap.size X z ∧ z.cell? ⟨a, 0, none⟩ = some (.slice A ns.length c) ∧ z.cell? ⟨a, 1, none⟩ = some (.slice (some g) ps.length c') ∧ z.cell? ⟨a + 1, 0, none⟩ = some (.slice B ms.length d) ∧ z.cell? ⟨a + 1, 1, none⟩ = some (.slice (some b) ps.length d') ∧ z.cell? (g.add (q * 2)) = some (.int .i64 (i : Int)) ∧ z.cell? ⟨(g.add (q * 2)).block, (g.add (q * 2)).off + 1, none⟩ = some (.bool no) ∧ z.cell? (b.add (q * 2)) = some (.int .i64 (j : Int)) ∧ z.cell? ⟨(b.add (q * 2)).block, (b.add (q * 2)).off + 1, none⟩ = some (.bool no)) ((refine ⟨?_, HCC.out _ ?_⟩ <;> (repeat (first | (with_reducible exact HB) | (with_reducible refine Below.drew ?_) | (with_reducible refine bl_drewN ?_ _) | ((with_reducible apply bthen); rotate_left; assumption))))) (((go_at_call 19; (with_reducible refine (HCALL.out _ ?_).mono ?_); (focus ((repeat (first | (with_reducible exact HB) | (with_reducible refine Below.drew ?_) | (with_reducible refine bl_drewN ?_ _) | ((with_reducible apply bthen); rotate_left; assumption))); done)); rintro e w3 ⟨rfl, B3⟩)))
      all_goals
        go_wp2_with fail
        go_roundw
        case rel =>
          refine ⟨q + 1, by omega, by go_num, ?_⟩
          (repeat (first | (with_reducible exact HB) | (with_reducible refine Below.drew ?_) | (with_reducible refine bl_drewN ?_ _) | ((with_reducible apply bthen); rotate_left; assumption)))
        case measure => simp [RowKit.intOf]; omega
    · have hle : decide ((q : Int) < ps.length) = false := decide_eq_false (by omega)
      have HZ : Hid (Below w.heap.size w wr) := Lib.hid (by rw [HWA.out]; exact HBX.out.trans (HBR.mono (by rw [← HWA.out] at HBX ⊢; exact HBX.out.size)))
      go_wp2_with fail
      go_ret
      exact ⟨rfl, HZ.out⟩
end Go.Proofs.YtebkaajnnjfhjaaDoor
