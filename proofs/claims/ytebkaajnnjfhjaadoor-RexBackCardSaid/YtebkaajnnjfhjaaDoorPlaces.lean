/-
  tree.Places: walked.
-/
import Derived.Test.YtebkaajnnjfhjaaDoorRight
import Derived.Test.YtebkaajnnjfhjaaDoorVals
import Derived.Test.YtebkaajnnjfhjaaDoorShf
import Derived.Test.YtebkaajnnjfhjaaDoorList
namespace Go.Proofs.YtebkaajnnjfhjaaDoor
set_option linter.unusedVariables false
set_option linter.unusedSimpArgs false
open Go.RowKit Go.Proofs.YtebkaajnnjfhjaaDoorW.PrintWords
open Tr (Nd Pt vals accP)

/-- The places of each. -/
def pF (ns : List Nd) (i : Nat) : Int := (Tr.plc (Tr.tr ns i) : Int)
theorem pF_bd (ns : List Nd) (i : Nat) : 0 ≤ pF ns i ∧ pF ns i ≤ 1073741824 := by
  have := Tr.plc_le (Tr.tr ns i)
  unfold Tr.cap at this
  unfold pF
  omega
theorem plcs_snoc (n : Nat) (l : List (Bool × Tr.T)) (x : Bool × Tr.T) : Tr.plcs n (l ++ [x]) = min (Tr.plcs n l + Tr.plc x.2) Tr.cap := by unfold Tr.plcs; rw [List.foldl_append]; rfl
set_option maxRecDepth 100000 in
set_option maxHeartbeats 6400000 in
theorem places_any {w : World} {A A' : Option Addr} {ns : List Nd} {ps : List Pt} (c c' : Nat) (h : TreeAt w A A' ns ps) :
    Calls Tryd.prog 10 #[.agg #[.slice A ns.length c, .slice A' ps.length c']] w fun e w' => e = .returned (.int .i64 (Tr.places ns ps)) ∧ Below w.heap.size w w' := by
  have hB0 : Below w.heap.size w (w.alloc (.cells #[.slice A ns.length c, .slice A' ps.length c'] 33)) := by (repeat (first | exact Below.refl _ _ | assumption | refine Below.drew ?_ | refine Below.alloc ?_ (by first | exact Nat.le_refl _ | (simp; done) | (simp; omega) | omega) _ | refine Below.setCell ?_ (by first | exact Nat.le_refl _ | (simp; done) | (simp; omega) | omega) _))
  have HR := Lib.hid (right_any c c' (h.below hB0))
  cases hr : Tr.right ns ps
  · have HP : Hid (Tr.places ns ps = 0) := Lib.hid (by unfold Tr.places; rw [hr]; rfl)
    rw [HP.out]
    rw [hr] at HR
    clear hr HP h
    go_enter Tryd.func10, Tryd.ntmps10
    go_wp2_with fail
    refine (HR.out).mono ?_
    rintro e w1 ⟨rfl, B1⟩
    go_wp2_with fail
    go_ret
    exact ⟨rfl, bthen hB0 B1⟩
  · have hG := (Tr.right_iff ns ps).1 hr
    have HP : Hid (Tr.places ns ps = Tr.plcs 0 (Tr.trees ns ps)) := Lib.hid (by unfold Tr.places; rw [hr]; rfl)
    rw [HP.out]
    rw [hr] at HR
    clear hr HP
    have hd : Tr.Dn ns := hG.dn
    have HD := Lib.hid hd
    have HGD := Lib.hid hG
    have hn2 := hG.n2
    have hp2 := hG.p2
    have HT := Lib.hid h
    have HM := print_make (P := Tryd.prog) 52 3 .i64 8 Tryd.underlying52 (by kernel_rfl) (by decide) ns.length (by omega)
    clear hG hd h
    go_enter Tryd.func10, Tryd.ntmps10
    go_wp2_with fail
    refine (HR.out).mono ?_
    rintro e w1 ⟨rfl, B1⟩
    have hTB : Hid (TB w1 w.heap.size A A' ns.length c ps.length c') := Lib.hid (blk_below (blk_new w _) B1)
    have HB1 := bthen hB0 B1
    have kb0 : w1.cell? ⟨w.heap.size, 0, none⟩ = some (.slice A ns.length c) := (blk_cell hTB.out 0).trans rfl
    have hlt1 : w.heap.size < w1.heap.size := by have := B1.size; simp at this; omega
    clear HR B1
    go_wp2_with fail
    clear HM kb0
    have hI0 : IB (w1.alloc (.cells (madeCells #[Value.int .i64 0] ns.length) 3)) w1.heap.size (vals (pF ns) 0 ns.length) := by
      rw [Tr.vals_zero]
      exact IB.made w1 ns.length
    have hT0 : Hid (TB (w1.alloc (.cells (madeCells #[Value.int .i64 0] ns.length) 3)) w.heap.size A A' ns.length c ps.length c') := Lib.hid (blk_alloc hTB.out _)
    have hB2 : Below w.heap.size w (w1.alloc (.cells (madeCells #[Value.int .i64 0] ns.length) 3)) := HB1.alloc HB1.size _
    have gs : w1.heap.size < (w1.alloc (.cells (madeCells #[Value.int .i64 0] ns.length) 3)).heap.size := by simp
    generalize hgu : w1.heap.size = gu at hI0 gs hlt1 ⊢
    generalize w1.alloc (.cells (madeCells #[Value.int .i64 0] ns.length) 3) = W0 at hI0 hB2 gs hT0 ⊢
    have HI0 := Lib.hid hI0
    clear hI0 hgu hTB HB1
    go_loopw [21] (fun i wr => ∃ k : Nat, k ≤ ns.length ∧ i = .int .i64 k ∧ Below w.heap.size w wr ∧ gu < wr.heap.size ∧ Hid (IB wr gu (vals (pF ns) k ns.length)) ∧ Hid (TB wr w.heap.size A A' ns.length c ps.length c')) (fun i _ => ns.length - (RowKit.intOf i).toNat)
    case atStart => exact ⟨0, by omega, rfl, hB2, gs, HI0, hT0⟩
    case round =>
      clear hB2 gs HI0 hT0
      obtain ⟨k, hk, rfl, HB, gs, HI, HTB⟩ := hrel
      by_cases hlt : k < ns.length
      · obtain ⟨a, ha, hab, hN⟩ := HT.out.nodes k hlt
        subst ha
        obtain ⟨c0, c1, c2, c3, c4, c5, c6, c7, c8⟩ := hN.below HB (by rw [add_block]; exact hab)
        have hend := Lib.hid (Tr.accP_end HD.out HGD.out.my hlt)
        have hdn := Lib.hid (HD.out k ns[k] (List.getElem?_eq_getElem hlt))
        have hmt := Tr.may_times (HGD.out.my ns[k] (List.getElem_mem hlt))
        have hm9 : ns[k].mx ≤ 9 := by omega
        have hm1 : -1 ≤ ns[k].mx := by omega
        have hlen := Tr.below_len ns[k]
        clear hmt
        generalize ns[k] = n at c0 c1 c2 c3 c4 c5 c6 c7 c8 hend hdn hlen hN hm9 hm1
        clear hN hab
        have HBW := Lib.hid (below_any n)
        have hck := HI.out.cell k (by rw [Tr.vals_len]; omega)
        have hfk := HI.out.frozen k
        have e2 : (k : Int) < ns.length := by omega
        have e3 : (0 : Int) ≤ (k : Int) := by omega
        obtain ⟨a0, ha0, hb2⟩ : ∃ a0 : Int, a0 = (if n.k = 2 then 1 else 0) ∧ ((n.k : Int) == 2) = decide (a0 = 1) := by
          by_cases h2 : n.k = 2
          · exact ⟨1, by rw [if_pos h2], by rw [h2]; decide⟩
          · refine ⟨0, by rw [if_neg h2], ?_⟩
            rw [beq_eq_false_iff_ne.2 (by omega)]; decide
        have ha01 : a0 = 0 ∨ a0 = 1 := by rw [ha0]; split <;> simp
        rw [← ha0] at hend
        clear ha0
        rcases ha01 with ha01 | ha01
        · subst ha01
          have hI5 : Hid (IB wr gu ((vals (pF ns) k ns.length).set k 0)) := Lib.hid (by rw [Tr.vals_start _ _ _ hlt]; exact HI.out)
          have hT5 := HTB
          have hB5 := HB
          go_wp2_with fail
          clear HI HTB HB hck hfk
          generalize hg5 : wr.heap.size = g5 at gs ⊢
          have hs5 := Lib.hid hg5
          clear hg5
          generalize wr = X at hI5 hT5 hB5 hs5 ⊢
          refine (HBW.out _).mono ?_
          clear HBW c0 c1 c2 c3 c4 c5 c6 c7 c8
          rintro e w2 ⟨v, rfl, hRI, B1⟩
          have hgb : gu < (X.alloc (.cells #[.int .u8 n.k, .int .u64 n.s.a, .int .u64 n.s.b, .int .u64 n.s.c, .int .u64 n.s.d, .int .i64 n.a, .int .i64 n.b, .int .i64 n.mn, .int .i64 n.mx] 27)).heap.size := by have := hs5.out; simp; omega
          have HI1 := Lib.hid ((hI5.out.alloc (.cells #[.int .u8 n.k, .int .u64 n.s.a, .int .u64 n.s.b, .int .u64 n.s.c, .int .u64 n.s.d, .int .i64 n.a, .int .i64 n.b, .int .i64 n.mn, .int .i64 n.mx] 27)).below B1)
          have HT1 : Hid (TB w2 w.heap.size (some a) A' ns.length c ps.length c') := Lib.hid (blk_below (blk_alloc hT5.out _) B1)
          have HK1 : Hid (w2.heap[g5]? = some (.cells #[.int .u8 n.k, .int .u64 n.s.a, .int .u64 n.s.b, .int .u64 n.s.c, .int .u64 n.s.d, .int .i64 n.a, .int .i64 n.b, .int .i64 n.mn, .int .i64 n.mx] 27 (0, 0))) := Lib.hid (by
            have h5 := blk_below (blk_new X (.cells #[.int .u8 n.k, .int .u64 n.s.a, .int .u64 n.s.b, .int .u64 n.s.c, .int .u64 n.s.d, .int .i64 n.a, .int .i64 n.b, .int .i64 n.mn, .int .i64 n.mx] 27)) B1
            rw [hs5.out] at h5
            exact h5)
          have HB1 : Below w.heap.size w w2 := (hB5.alloc hB5.size _).trans (B1.mono (by have := hB5.size; simp; omega))
          have gs1 : gu < w2.heap.size := Nat.lt_of_lt_of_le hgb B1.size
          clear hI5 hT5 hB5 B1
          generalize (X.alloc (.cells #[.int .u8 n.k, .int .u64 n.s.a, .int .u64 n.s.b, .int .u64 n.s.c, .int .u64 n.s.d, .int .i64 n.a, .int .i64 n.b, .int .i64 n.mn, .int .i64 n.mx] 27)).heap.size = bb at hgb hRI
          generalize Tr.below n = l at hend hdn hlen hRI
          obtain ⟨AV, rfl⟩ := hRI.form
          have HRI := Lib.hid hRI
          have HGB := Lib.hid hgb
          clear hRI hgb hs5
          go_wp2_with fail
          go_loopw [35] (fun j wi => ∃ q : Nat, q ≤ l.length ∧ j = .int .i64 q ∧ Below w.heap.size w wi ∧ gu < wi.heap.size ∧ Hid (IB wi gu ((vals (pF ns) k ns.length).set k (accP ns 0 (l.take q)))) ∧ Hid (RI wi bb (.slice AV l.length l.length) l) ∧ Hid (TB wi w.heap.size (some a) A' ns.length c ps.length c') ∧ Hid (wi.heap[g5]? = some (.cells #[.int .u8 n.k, .int .u64 n.s.a, .int .u64 n.s.b, .int .u64 n.s.c, .int .u64 n.s.d, .int .i64 n.a, .int .i64 n.b, .int .i64 n.mn, .int .i64 n.mx] 27 (0, 0)))) (fun j _ => l.length - (RowKit.intOf j).toNat)
          case atStart => exact ⟨0, by omega, rfl, HB1, gs1, HI1, HRI, HT1, HK1⟩
          case round =>
            clear HB1 gs1 HI1 HRI HT1 HK1
            obtain ⟨q, hq, rfl, HB2, gs2, HI2, HR2, HT2, HK2⟩ := hrel
            by_cases hql : q < l.length
            · obtain ⟨gv, rfl, hcell⟩ := HR2.out.at_ hql
              have hmem := hdn.out l[q] (List.getElem_mem hql)
              have hts := Lib.hid (take_snoc' l q hql)
              have hbd := Tr.accP_bd ns 0 (l.take q) (by omega) (by omega)
              generalize l[q] = x at hcell hmem hts
              obtain ⟨hx0, hxk⟩ := hmem
              obtain ⟨m, rfl⟩ := Int.eq_ofNat_of_zero_le hx0
              have hsn := Lib.hid (Tr.accP_snoc ns 0 (l.take q) (m : Int))
              have rl := Tr.row_len (pF ns) k ns.length (accP ns 0 (l.take q))
              have hcm := HI2.out.cell m (by rw [rl]; omega)
              rw [Tr.row_below _ _ _ _ _ (by omega)] at hcm
              have hck := HI2.out.cell k (by rw [rl]; omega)
              rw [Tr.row_at] at hck
              have hfm := HI2.out.frozen m
              have hfk := HI2.out.frozen k
              have hbm := pF_bd ns m
              have hdm : Hid ((Tr.plc (Tr.tr ns ((m : Int)).toNat) : Int) = pF ns m) := Lib.hid rfl
              rw [hdm.out] at hsn
              have HI3 := HI2
              generalize accP ns 0 (l.take q) = z at HI3 hcm hck hsn hbd
              generalize hdx : pF ns m = y at hcm hsn hbm
              clear hdx
              have e1 : (m : Int) < ns.length := by omega
              obtain ⟨hb1, hb3⟩ := hbd
              obtain ⟨hb4, hb5⟩ := hbm
              have W1 : IntKind.i64.wrap (z + y) = z + y := IntWalk.i64_in _ (by omega)
              clear rl
              go_wp2_with fail
              go_region
              all_goals
                go_wp2_with fail
                go_roundw
                case rel =>
                  refine ⟨q + 1, by omega, by go_num, by (repeat (first | exact Below.refl _ _ | assumption | refine Below.drew ?_ | refine Below.alloc ?_ (by first | exact Nat.le_refl _ | (simp; done) | (simp; omega) | omega) _ | refine Below.setCell ?_ (by first | exact Nat.le_refl _ | (simp; done) | (simp; omega) | omega) _)), by simpa [World.setCell] using gs2, ?_, ?_, ?_, ?_⟩
                  · have := HI3.out.set k (min (z + y) 1073741824)
                    rw [Tr.row_set] at this
                    rw [hts.out, hsn.out]
                    exact Lib.hid this
                  · exact Lib.hid (HR2.out.set (p := ⟨gu, k, none⟩) HGB.out _)
                  · exact Lib.hid (blk_far HT2.out (p := ⟨gu, k, none⟩) (by show w.heap.size ≠ gu; omega) _)
                  · exact Lib.hid (blk_far HK2.out (p := ⟨gu, k, none⟩) (by show g5 ≠ gu; omega) _)
                case measure => simp [RowKit.intOf]; omega
            · have hqn : q = l.length := by omega
              subst hqn
              have rl := Tr.row_len (pF ns) k ns.length (accP ns 0 (l.take l.length))
              have hck := HI2.out.cell k (by rw [rl]; omega)
              rw [Tr.row_at, List.take_of_length_le (Nat.le_refl _)] at hck
              have hfk := HI2.out.frozen k
              have HI3 := HI2.out
              rw [List.take_of_length_le (Nat.le_refl _)] at HI3
              have HI4 := Lib.hid HI3
              have hbz := Tr.accP_bd ns 0 l (by omega) (by omega)
              clear HI2 HI3 rl
              generalize accP ns 0 l = z at hck HI4 hbz hend
              obtain ⟨hz1, hz2⟩ := hbz
              have k0 : wr.cell? ⟨g5, 0, none⟩ = some (.int .u8 n.k) := (blk_cell HK2.out 0).trans rfl
              have k8 : wr.cell? ⟨g5, 8, none⟩ = some (.int .i64 n.mx) := (blk_cell HK2.out 8).trans rfl
              by_cases h5 : n.k = 5
              · have b5 : ((n.k : Int) == 5) = true := by rw [h5]; rfl
                by_cases hmx : 0 ≤ n.mx
                · have bm : decide (0 ≤ n.mx) = true := decide_eq_true hmx
                  have he : Hid (min (z * n.mx) 1073741824 = pF ns k) := Lib.hid (by have := hend.out; rw [if_pos ⟨h5, hmx⟩] at this; exact this)
                  have m1 : 0 ≤ z * n.mx := Int.mul_nonneg hz1 hmx
                  have m2 : z * n.mx ≤ 1073741824 * 9 := Int.mul_le_mul hz2 hm9 hmx (by omega)
                  have m3 : z * n.mx ≤ 9663676416 := by omega
                  have W1 : IntKind.i64.wrap (z * n.mx) = z * n.mx := IntWalk.i64_in _ (by omega)
                  clear m2 h5
                  go_wp2_with fail
                  go_region
                  all_goals
                    go_wp2_with fail
                    go_roundw
                    case rel =>
                      refine ⟨k + 1, by omega, by go_num, by (repeat (first | exact Below.refl _ _ | assumption | refine Below.drew ?_ | refine Below.alloc ?_ (by first | exact Nat.le_refl _ | (simp; done) | (simp; omega) | omega) _ | refine Below.setCell ?_ (by first | exact Nat.le_refl _ | (simp; done) | (simp; omega) | omega) _)), by simpa [World.setCell] using gs2, ?_, ?_⟩
                      · have := HI4.out.set k (min (z * n.mx) 1073741824)
                        rw [Tr.row_set] at this
                        rw [← Tr.vals_succ, ← he.out]
                        exact Lib.hid this
                      · exact Lib.hid (blk_far HT2.out (p := ⟨gu, k, none⟩) (by show w.heap.size ≠ gu; omega) _)
                    case measure => simp [RowKit.intOf]; omega
                · have bm : decide (0 ≤ n.mx) = false := decide_eq_false hmx
                  have he : Hid (z = pF ns k) := Lib.hid (by have := hend.out; rw [if_neg (fun h => hmx h.2)] at this; exact this)
                  clear h5 hmx
                  go_wp2_with fail
                  go_roundw
                  case rel =>
                    refine ⟨k + 1, by omega, by go_num, HB2, gs2, ?_, HT2⟩
                    have := HI4.out
                    rw [he.out, Tr.vals_succ] at this
                    exact Lib.hid this
                  case measure => simp [RowKit.intOf]; omega
              · have b5 : ((n.k : Int) == 5) = false := beq_f (by omega)
                have he : Hid (z = pF ns k) := Lib.hid (by have := hend.out; rw [if_neg (fun h => h5 h.1)] at this; exact this)
                clear h5
                go_wp2_with fail
                go_roundw
                case rel =>
                  refine ⟨k + 1, by omega, by go_num, HB2, gs2, ?_, HT2⟩
                  have := HI4.out
                  rw [he.out, Tr.vals_succ] at this
                  exact Lib.hid this
                case measure => simp [RowKit.intOf]; omega
        · subst ha01
          have hI5 : Hid (IB (wr.setCell ⟨gu, k, none⟩ (.int .i64 1)) gu ((vals (pF ns) k ns.length).set k 1)) := Lib.hid (HI.out.set k 1)
          have hT5 : Hid (TB (wr.setCell ⟨gu, k, none⟩ (.int .i64 1)) w.heap.size (some a) A' ns.length c ps.length c') := Lib.hid (blk_far HTB.out (p := ⟨gu, k, none⟩) (by show w.heap.size ≠ gu; omega) _)
          have hB5 : Below w.heap.size w (wr.setCell ⟨gu, k, none⟩ (.int .i64 1)) := by (repeat (first | exact Below.refl _ _ | assumption | refine Below.drew ?_ | refine Below.alloc ?_ (by first | exact Nat.le_refl _ | (simp; done) | (simp; omega) | omega) _ | refine Below.setCell ?_ (by first | exact Nat.le_refl _ | (simp; done) | (simp; omega) | omega) _))
          have hs5 : Hid ((wr.setCell ⟨gu, k, none⟩ (.int .i64 1)).heap.size = wr.heap.size) := Lib.hid (by simp [World.setCell])
          go_wp2_with fail
          clear HI HTB HB hck hfk
          generalize wr.setCell ⟨gu, k, none⟩ (.int .i64 1) = X at hI5 hT5 hB5 hs5 ⊢
          generalize wr.heap.size = g5 at hs5 gs ⊢
          refine (HBW.out _).mono ?_
          clear HBW c0 c1 c2 c3 c4 c5 c6 c7 c8
          rintro e w2 ⟨v, rfl, hRI, B1⟩
          have hgb : gu < (X.alloc (.cells #[.int .u8 n.k, .int .u64 n.s.a, .int .u64 n.s.b, .int .u64 n.s.c, .int .u64 n.s.d, .int .i64 n.a, .int .i64 n.b, .int .i64 n.mn, .int .i64 n.mx] 27)).heap.size := by have := hs5.out; simp; omega
          have HI1 := Lib.hid ((hI5.out.alloc (.cells #[.int .u8 n.k, .int .u64 n.s.a, .int .u64 n.s.b, .int .u64 n.s.c, .int .u64 n.s.d, .int .i64 n.a, .int .i64 n.b, .int .i64 n.mn, .int .i64 n.mx] 27)).below B1)
          have HT1 : Hid (TB w2 w.heap.size (some a) A' ns.length c ps.length c') := Lib.hid (blk_below (blk_alloc hT5.out _) B1)
          have HK1 : Hid (w2.heap[g5]? = some (.cells #[.int .u8 n.k, .int .u64 n.s.a, .int .u64 n.s.b, .int .u64 n.s.c, .int .u64 n.s.d, .int .i64 n.a, .int .i64 n.b, .int .i64 n.mn, .int .i64 n.mx] 27 (0, 0))) := Lib.hid (by
            have h5 := blk_below (blk_new X (.cells #[.int .u8 n.k, .int .u64 n.s.a, .int .u64 n.s.b, .int .u64 n.s.c, .int .u64 n.s.d, .int .i64 n.a, .int .i64 n.b, .int .i64 n.mn, .int .i64 n.mx] 27)) B1
            rw [hs5.out] at h5
            exact h5)
          have HB1 : Below w.heap.size w w2 := (hB5.alloc hB5.size _).trans (B1.mono (by have := hB5.size; simp; omega))
          have gs1 : gu < w2.heap.size := Nat.lt_of_lt_of_le hgb B1.size
          clear hI5 hT5 hB5 B1
          generalize (X.alloc (.cells #[.int .u8 n.k, .int .u64 n.s.a, .int .u64 n.s.b, .int .u64 n.s.c, .int .u64 n.s.d, .int .i64 n.a, .int .i64 n.b, .int .i64 n.mn, .int .i64 n.mx] 27)).heap.size = bb at hgb hRI
          generalize Tr.below n = l at hend hdn hlen hRI
          obtain ⟨AV, rfl⟩ := hRI.form
          have HRI := Lib.hid hRI
          have HGB := Lib.hid hgb
          clear hRI hgb hs5
          go_wp2_with fail
          go_loopw [35] (fun j wi => ∃ q : Nat, q ≤ l.length ∧ j = .int .i64 q ∧ Below w.heap.size w wi ∧ gu < wi.heap.size ∧ Hid (IB wi gu ((vals (pF ns) k ns.length).set k (accP ns 1 (l.take q)))) ∧ Hid (RI wi bb (.slice AV l.length l.length) l) ∧ Hid (TB wi w.heap.size (some a) A' ns.length c ps.length c') ∧ Hid (wi.heap[g5]? = some (.cells #[.int .u8 n.k, .int .u64 n.s.a, .int .u64 n.s.b, .int .u64 n.s.c, .int .u64 n.s.d, .int .i64 n.a, .int .i64 n.b, .int .i64 n.mn, .int .i64 n.mx] 27 (0, 0)))) (fun j _ => l.length - (RowKit.intOf j).toNat)
          case atStart => exact ⟨0, by omega, rfl, HB1, gs1, HI1, HRI, HT1, HK1⟩
          case round =>
            clear HB1 gs1 HI1 HRI HT1 HK1
            obtain ⟨q, hq, rfl, HB2, gs2, HI2, HR2, HT2, HK2⟩ := hrel
            by_cases hql : q < l.length
            · obtain ⟨gv, rfl, hcell⟩ := HR2.out.at_ hql
              have hmem := hdn.out l[q] (List.getElem_mem hql)
              have hts := Lib.hid (take_snoc' l q hql)
              have hbd := Tr.accP_bd ns 1 (l.take q) (by omega) (by omega)
              generalize l[q] = x at hcell hmem hts
              obtain ⟨hx0, hxk⟩ := hmem
              obtain ⟨m, rfl⟩ := Int.eq_ofNat_of_zero_le hx0
              have hsn := Lib.hid (Tr.accP_snoc ns 1 (l.take q) (m : Int))
              have rl := Tr.row_len (pF ns) k ns.length (accP ns 1 (l.take q))
              have hcm := HI2.out.cell m (by rw [rl]; omega)
              rw [Tr.row_below _ _ _ _ _ (by omega)] at hcm
              have hck := HI2.out.cell k (by rw [rl]; omega)
              rw [Tr.row_at] at hck
              have hfm := HI2.out.frozen m
              have hfk := HI2.out.frozen k
              have hbm := pF_bd ns m
              have hdm : Hid ((Tr.plc (Tr.tr ns ((m : Int)).toNat) : Int) = pF ns m) := Lib.hid rfl
              rw [hdm.out] at hsn
              have HI3 := HI2
              generalize accP ns 1 (l.take q) = z at HI3 hcm hck hsn hbd
              generalize hdx : pF ns m = y at hcm hsn hbm
              clear hdx
              have e1 : (m : Int) < ns.length := by omega
              obtain ⟨hb1, hb3⟩ := hbd
              obtain ⟨hb4, hb5⟩ := hbm
              have W1 : IntKind.i64.wrap (z + y) = z + y := IntWalk.i64_in _ (by omega)
              clear rl
              go_wp2_with fail
              go_region
              all_goals
                go_wp2_with fail
                go_roundw
                case rel =>
                  refine ⟨q + 1, by omega, by go_num, by (repeat (first | exact Below.refl _ _ | assumption | refine Below.drew ?_ | refine Below.alloc ?_ (by first | exact Nat.le_refl _ | (simp; done) | (simp; omega) | omega) _ | refine Below.setCell ?_ (by first | exact Nat.le_refl _ | (simp; done) | (simp; omega) | omega) _)), by simpa [World.setCell] using gs2, ?_, ?_, ?_, ?_⟩
                  · have := HI3.out.set k (min (z + y) 1073741824)
                    rw [Tr.row_set] at this
                    rw [hts.out, hsn.out]
                    exact Lib.hid this
                  · exact Lib.hid (HR2.out.set (p := ⟨gu, k, none⟩) HGB.out _)
                  · exact Lib.hid (blk_far HT2.out (p := ⟨gu, k, none⟩) (by show w.heap.size ≠ gu; omega) _)
                  · exact Lib.hid (blk_far HK2.out (p := ⟨gu, k, none⟩) (by show g5 ≠ gu; omega) _)
                case measure => simp [RowKit.intOf]; omega
            · have hqn : q = l.length := by omega
              subst hqn
              have rl := Tr.row_len (pF ns) k ns.length (accP ns 1 (l.take l.length))
              have hck := HI2.out.cell k (by rw [rl]; omega)
              rw [Tr.row_at, List.take_of_length_le (Nat.le_refl _)] at hck
              have hfk := HI2.out.frozen k
              have HI3 := HI2.out
              rw [List.take_of_length_le (Nat.le_refl _)] at HI3
              have HI4 := Lib.hid HI3
              have hbz := Tr.accP_bd ns 1 l (by omega) (by omega)
              clear HI2 HI3 rl
              generalize accP ns 1 l = z at hck HI4 hbz hend
              obtain ⟨hz1, hz2⟩ := hbz
              have k0 : wr.cell? ⟨g5, 0, none⟩ = some (.int .u8 n.k) := (blk_cell HK2.out 0).trans rfl
              have k8 : wr.cell? ⟨g5, 8, none⟩ = some (.int .i64 n.mx) := (blk_cell HK2.out 8).trans rfl
              by_cases h5 : n.k = 5
              · have b5 : ((n.k : Int) == 5) = true := by rw [h5]; rfl
                by_cases hmx : 0 ≤ n.mx
                · have bm : decide (0 ≤ n.mx) = true := decide_eq_true hmx
                  have he : Hid (min (z * n.mx) 1073741824 = pF ns k) := Lib.hid (by have := hend.out; rw [if_pos ⟨h5, hmx⟩] at this; exact this)
                  have m1 : 0 ≤ z * n.mx := Int.mul_nonneg hz1 hmx
                  have m2 : z * n.mx ≤ 1073741824 * 9 := Int.mul_le_mul hz2 hm9 hmx (by omega)
                  have m3 : z * n.mx ≤ 9663676416 := by omega
                  have W1 : IntKind.i64.wrap (z * n.mx) = z * n.mx := IntWalk.i64_in _ (by omega)
                  clear m2 h5
                  go_wp2_with fail
                  go_region
                  all_goals
                    go_wp2_with fail
                    go_roundw
                    case rel =>
                      refine ⟨k + 1, by omega, by go_num, by (repeat (first | exact Below.refl _ _ | assumption | refine Below.drew ?_ | refine Below.alloc ?_ (by first | exact Nat.le_refl _ | (simp; done) | (simp; omega) | omega) _ | refine Below.setCell ?_ (by first | exact Nat.le_refl _ | (simp; done) | (simp; omega) | omega) _)), by simpa [World.setCell] using gs2, ?_, ?_⟩
                      · have := HI4.out.set k (min (z * n.mx) 1073741824)
                        rw [Tr.row_set] at this
                        rw [← Tr.vals_succ, ← he.out]
                        exact Lib.hid this
                      · exact Lib.hid (blk_far HT2.out (p := ⟨gu, k, none⟩) (by show w.heap.size ≠ gu; omega) _)
                    case measure => simp [RowKit.intOf]; omega
                · have bm : decide (0 ≤ n.mx) = false := decide_eq_false hmx
                  have he : Hid (z = pF ns k) := Lib.hid (by have := hend.out; rw [if_neg (fun h => hmx h.2)] at this; exact this)
                  clear h5 hmx
                  go_wp2_with fail
                  go_roundw
                  case rel =>
                    refine ⟨k + 1, by omega, by go_num, HB2, gs2, ?_, HT2⟩
                    have := HI4.out
                    rw [he.out, Tr.vals_succ] at this
                    exact Lib.hid this
                  case measure => simp [RowKit.intOf]; omega
              · have b5 : ((n.k : Int) == 5) = false := beq_f (by omega)
                have he : Hid (z = pF ns k) := Lib.hid (by have := hend.out; rw [if_neg (fun h => h5 h.1)] at this; exact this)
                clear h5
                go_wp2_with fail
                go_roundw
                case rel =>
                  refine ⟨k + 1, by omega, by go_num, HB2, gs2, ?_, HT2⟩
                  have := HI4.out
                  rw [he.out, Tr.vals_succ] at this
                  exact Lib.hid this
                case measure => simp [RowKit.intOf]; omega
      · have hkn : k = ns.length := by omega
        subst hkn
        have hI := HI.out
        rw [Tr.vals_full] at hI
        have HI1 := Lib.hid hI
        have kb0 : wr.cell? ⟨w.heap.size, 0, none⟩ = some (.slice A ns.length c) := (blk_cell HTB.out 0).trans rfl
        have kb1 : wr.cell? ⟨w.heap.size, 1, none⟩ = some (.slice A' ps.length c') := (blk_cell HTB.out 1).trans rfl
        clear hI HI
        go_wp2_with fail
        clear kb0 kb1 HTB
        go_loopw [76, 8] (fun iv sv wi => ∃ q : Nat, q ≤ ps.length ∧ iv = .int .i64 q ∧ sv = .int .i64 (Tr.plcs 0 (Tr.trees ns (ps.take q)) : Nat) ∧ Below w.heap.size w wi ∧ gu < wi.heap.size ∧ Hid (IB wi gu ((List.range ns.length).map (pF ns)))) (fun iv _ _ => ps.length - (RowKit.intOf iv).toNat)
        case atStart => exact ⟨0, by omega, rfl, rfl, HB, gs, HI1⟩
        case round =>
          clear HB gs HI1
          obtain ⟨q, hq, rfl, rfl, HB2, gs2, HI2⟩ := hrel
          have hpl : Tr.plcs 0 (Tr.trees ns (ps.take q)) ≤ 1073741824 := Tr.plcs_le _ 0 (by decide)
          by_cases hql : q < ps.length
          · obtain ⟨a, ha, hab, hN0⟩ := HT.out.parts q hql
            subst ha
            obtain ⟨n0, n1⟩ := hN0
            replace n0 := (HB2.cell (p := a.add (q * 2)) (by rw [add_block]; exact hab)).trans n0
            replace n1 := (HB2.cell (p := ⟨(a.add (q * 2)).block, (a.add (q * 2)).off + 1, none⟩) (by show (a.add (q * 2)).block < _; rw [add_block]; exact hab)).trans n1
            have hrt := HGD.out.rt ps[q] (List.getElem_mem hql)
            have hts : Hid (Tr.plcs 0 (Tr.trees ns (ps.take (q + 1))) = min (Tr.plcs 0 (Tr.trees ns (ps.take q)) + Tr.plc (Tr.tr ns ps[q].root.toNat)) 1073741824) := Lib.hid (by
              rw [take_snoc' ps q hql]
              unfold Tr.trees
              rw [List.map_append, List.map_cons, List.map_nil, plcs_snoc]
              rfl)
            generalize ps[q] = p at n0 n1 hts hrt
            obtain ⟨x, no⟩ := p
            simp only at n0 n1 hts hrt
            obtain ⟨m, rfl⟩ := Int.eq_ofNat_of_zero_le hrt.1
            have hml : m < ((List.range ns.length).map (pF ns)).length := by simp; omega
            have hcm := HI2.out.cell m hml
            have hgm : ((List.range ns.length).map (pF ns))[m] = (Tr.plc (Tr.tr ns m) : Int) := by simp [pF]
            rw [hgm] at hcm
            have hpm := Tr.plc_le (Tr.tr ns m)
            unfold Tr.cap at hpm
            rw [Int.toNat_natCast] at hts
            generalize Tr.plcs 0 (Tr.trees ns (ps.take q)) = sm at hts hpl
            generalize Tr.plc (Tr.tr ns m) = y at hcm hts hpm
            clear hgm hml
            have e1 : (m : Int) < ns.length := by omega
            go_wp2_with fail
            go_roundw
            case rel =>
              refine ⟨q + 1, by omega, by go_num, ?_, HB2.alloc HB2.size _, by simp; omega, Lib.hid (HI2.out.alloc _)⟩
              rw [hts.out]
              congr 1
              omega
            case measure => simp [RowKit.intOf]; omega
          · have hqn : q = ps.length := by omega
            subst hqn
            have hts : Hid (Tr.plcs 0 (Tr.trees ns (ps.take ps.length)) = Tr.plcs 0 (Tr.trees ns ps)) := Lib.hid (by rw [List.take_of_length_le (Nat.le_refl _)])
            generalize Tr.plcs 0 (Tr.trees ns (ps.take ps.length)) = sm at hts hpl
            go_wp2_with fail
            go_ret
            exact ⟨by rw [← hts.out]; rfl, HB2⟩
end Go.Proofs.YtebkaajnnjfhjaaDoor
