/-
  Law 07's same, of two trees that are one: walked.
-/
import Derived.Test.YtebkaajnnjfhjaaDoorRxD
namespace Go.Proofs.YtebkaajnnjfhjaaDoor
set_option linter.unusedVariables false
set_option linter.unusedSimpArgs false
open Go.RowKit Go.Proofs.YtebkaajnnjfhjaaDoorW.PrintWords
open Tr (Nd Pt T R sz rootI post ndsL ptsL szL)

theorem eqPt (d : Nat) (w : World) (p q : Pt) : (Op.equalIn (d + 2) 30 (.agg #[.int .i64 p.root, .bool p.no]) (.agg #[.int .i64 q.root, .bool q.no])).run Tryd.prog w = .ok ((p.root == q.root) && (p.no == q.no)) w := by
  refine eqA_of Tryd.underlying30 (by kernel_rfl) ?_
  refine eqf_cons (by rfl) (by go_simp; rfl) (by go_simp; rfl) (by go_simp) ?_
  exact eqf_last (by rfl) (by go_simp; rfl) (by go_simp; rfl) (by go_simp)
theorem neqP (p : Pt) (w : World) : (binOp .neq 30 (.agg #[.int .i64 p.root, .bool p.no]) (.agg #[.int .i64 p.root, .bool p.no])).run Tryd.prog w = .ok (.bool false) w := by
  have := bop_neqA 30 _ _ _ w (eqPt 9998 w p p)
  rw [beq_self_eq_true, beq_self_eq_true] at this
  exact this
theorem eqg_pt (op : BinOp) (x y : Operand) (xs ys : Array Value) (w : World) : (eqGuard op 30 x y (.agg xs) (.agg ys)).run Tryd.prog w = .ok () w := run_eqGuard_agg w op 30 x y xs ys (by kernel_rfl)
set_option maxRecDepth 100000 in
set_option maxHeartbeats 3200000 in
theorem same_any {w : World} {A A' B B' : Option Addr} {ns : List Nd} {ps : List Pt} (c c' d d' : Nat) (h : TreeAt w A A' ns ps) (k : TreeAt w B B' ns ps) :
    Calls Tryd.prog 40 #[.agg #[.slice A ns.length c, .slice A' ps.length c'], .agg #[.slice B ns.length d, .slice B' ps.length d']] w fun e w' => e = .returned (.bool true) ∧ Below w.heap.size w w' := by
  have HH := Lib.hid h
  have HK := Lib.hid k
  have hnl := h.nlen
  have hpl := h.plen
  clear h k
  go_enter Tryd.func40, Tryd.ntmps40
  go_wp2_with fail
  obtain ⟨X, hX⟩ : ∃ X, X = (w.alloc (.cells #[.slice A ns.length c, .slice A' ps.length c'] 33)).alloc (.cells #[.slice B ns.length d, .slice B' ps.length d'] 33) := ⟨_, rfl⟩
  have hBX : Below w.heap.size w X := by rw [hX]; (repeat (first | exact Below.refl _ _ | assumption | refine Below.drew ?_ | refine Below.alloc ?_ (by first | exact Nat.le_refl _ | (simp; done) | (simp; omega) | omega) _ | refine Below.setCell ?_ (by first | exact Nat.le_refl _ | (simp; done) | (simp; omega) | omega) _))
  have hb0 : X.heap[w.heap.size]? = some (.cells #[.slice A ns.length c, .slice A' ps.length c'] 33 (0, 0)) := by rw [hX]; exact blk_alloc (blk_new w _) _
  have hb1 : X.heap[w.heap.size + 1]? = some (.cells #[.slice B ns.length d, .slice B' ps.length d'] 33 (0, 0)) := by rw [hX]; exact rblk_new_at _ _ _ (by simp)
  rw [← hX]
  have HB0 := Lib.hid hb0
  have HB1 := Lib.hid hb1
  have HBX := Lib.hid hBX
  have HHX := Lib.hid (HH.out.below hBX)
  have HKX := Lib.hid (HK.out.below hBX)
  clear hb0 hb1 hBX hX HH HK
  obtain ⟨a, hwa⟩ : ∃ a, w.heap.size = a := ⟨_, rfl⟩
  have HWA := Lib.hid hwa
  rw [hwa] at HB0 HB1 HBX ⊢
  clear hwa
  have HCX : Hid (∀ z, Below X.heap.size X z → z.cell? ⟨a, 0, none⟩ = some (.slice A ns.length c) ∧ z.cell? ⟨a, 1, none⟩ = some (.slice A' ps.length c') ∧ z.cell? ⟨a + 1, 0, none⟩ = some (.slice B ns.length d) ∧ z.cell? ⟨a + 1, 1, none⟩ = some (.slice B' ps.length d')) := Lib.hid fun z hz => by
    have k0 := blk_below HB0.out hz
    have k1 := blk_below HB1.out hz
    exact ⟨(blk_cell k0 0).trans rfl, (blk_cell k0 1).trans rfl, (blk_cell k1 0).trans rfl, (blk_cell k1 1).trans rfl⟩
  have hX0 := HCX.out X (Below.refl _ _)
  obtain ⟨x0, x1, x2, x3⟩ := hX0
  go_loopw [5] (fun i wr => ∃ q : Nat, q ≤ ns.length ∧ i = .int .i64 q ∧ Hid (Below X.heap.size X wr)) (fun i _ => ns.length - (RowKit.intOf i).toNat)
  case atStart => exact ⟨0, by omega, rfl, Lib.hid (Below.refl _ _)⟩
  case round =>
    obtain ⟨q, hq, rfl, HBR⟩ := hrel
    clear x0 x1 x2 x3
    obtain ⟨x0, x1, x2, x3⟩ := HCX.out _ HBR.out
    by_cases hlt : q < ns.length
    · obtain ⟨g, rfl, hab, hN⟩ := HHX.out.nodes q hlt
      obtain ⟨b, rfl, hbb, hM⟩ := HKX.out.nodes q hlt
      obtain ⟨c0, c1, c2, c3, c4, c5, c6, c7, c8⟩ := hN.below HBR.out (by rw [add_block]; exact hab)
      obtain ⟨d0, d1, d2, d3, d4, d5, d6, d7, d8⟩ := hM.below HBR.out (by rw [add_block]; exact hbb)
      generalize ns[q] = n at *
      have hne := fun w => neq_nd n n w
      have heg := fun op u v w => eqg_nd op u v #[.int .u8 n.k, .int .u64 n.s.a, .int .u64 n.s.b, .int .u64 n.s.c, .int .u64 n.s.d, .int .i64 n.a, .int .i64 n.b, .int .i64 n.mn, .int .i64 n.mx] #[.int .u8 n.k, .int .u64 n.s.a, .int .u64 n.s.b, .int .u64 n.s.c, .int .u64 n.s.d, .int .i64 n.a, .int .i64 n.b, .int .i64 n.mn, .int .i64 n.mx] w
      rw [decide_eq_true (rfl : n = n)] at hne
      have e2 : (q : Int) < ns.length := by omega
      have e3 : (0 : Int) ≤ (q : Int) := by omega
      clear hN hM
      go_wp2_with fail
      go_quiet (fail)
      go_wp2_with fail
      go_roundw
      case rel => exact ⟨q + 1, by omega, by go_num, Lib.hid (rx_drewN HBR.out nq)⟩
      case measure => simp [RowKit.intOf]; omega
    · have hle : decide ((q : Int) < ns.length) = false := decide_eq_false (by omega)
      go_wp2_with fail
      go_loopw [6] (fun i wr2 => ∃ q : Nat, q ≤ ps.length ∧ i = .int .i64 q ∧ Hid (Below X.heap.size X wr2)) (fun i _ => ps.length - (RowKit.intOf i).toNat)
      case atStart => exact ⟨0, by omega, rfl, HBR⟩
      case round =>
        clear HBR x0 x1 x2 x3 hle hlt hq
        obtain ⟨q, hq, rfl, HBR⟩ := hrel
        obtain ⟨x0, x1, x2, x3⟩ := HCX.out _ HBR.out
        by_cases hlt : q < ps.length
        · obtain ⟨g, rfl, hab, hN0, hN1⟩ := HHX.out.parts q hlt
          obtain ⟨b, rfl, hbb, hM0, hM1⟩ := HKX.out.parts q hlt
          have c0 := (HBR.out.cell (p := g.add (q * 2)) (by rw [add_block]; exact hab)).trans hN0
          have c1 := (HBR.out.cell (p := ⟨(g.add (q * 2)).block, (g.add (q * 2)).off + 1, none⟩) (by show (g.add (q * 2)).block < _; rw [add_block]; exact hab)).trans hN1
          have d0 := (HBR.out.cell (p := b.add (q * 2)) (by rw [add_block]; exact hbb)).trans hM0
          have d1 := (HBR.out.cell (p := ⟨(b.add (q * 2)).block, (b.add (q * 2)).off + 1, none⟩) (by show (b.add (q * 2)).block < _; rw [add_block]; exact hbb)).trans hM1
          generalize ps[q] = n at *
          have hne := fun w => neqP n w
          have heg := fun op u v w => eqg_pt op u v #[.int .i64 n.root, .bool n.no] #[.int .i64 n.root, .bool n.no] w
          have e2 : (q : Int) < ps.length := by omega
          have e3 : (0 : Int) ≤ (q : Int) := by omega
          clear hN0 hN1 hM0 hM1
          go_wp2_with fail
          go_quiet (fail)
          go_wp2_with fail
          go_roundw
          case rel => exact ⟨q + 1, by omega, by go_num, Lib.hid (rx_drewN HBR.out nq)⟩
          case measure => simp [RowKit.intOf]; omega
        · have hle : decide ((q : Int) < ps.length) = false := decide_eq_false (by omega)
          have HZ : Hid (Below a w _) := Lib.hid (HBX.out.trans (HBR.out.mono (by rw [← HWA.out] at HBX ⊢; exact HBX.out.size)))
          go_wp2_with fail
          go_ret
          exact ⟨rfl, by rw [HWA.out]; exact HZ.out⟩
end Go.Proofs.YtebkaajnnjfhjaaDoor
namespace Go.Proofs.YtebkaajnnjfhjaaDoor
set_option linter.unusedVariables false
set_option linter.unusedSimpArgs false
open Go.RowKit Go.Proofs.YtebkaajnnjfhjaaDoorW.PrintWords
open Tr (Nd Pt T R sz rootI post ndsL ptsL szL)

/-- Parse of a text whose answer is known. -/
theorem parse_ok (l : List UInt8) (L : List (Bool × T)) (r : List UInt8) (p : Nat) (ns : List Nd) (ps : List Pt) (hl : l.length ≤ 300) (h : Tr.rparse 600 l = .ok L r p) (hn : ndsL 0 L = ns) (hp : ptsL 0 L = ps) (w : World) :
    Calls Tryd.prog 21 #[.string ⟨l.toArray⟩] w fun e w' => ∃ A A' c c', e = .returned (.tuple #[.agg #[.slice A ns.length c, .slice A' ps.length c'], .int .i64 0, .int .i64 0]) ∧ TreeAt w' A A' ns ps ∧ Below w.heap.size w w' := by
  refine (rparse_any l hl w).mono ?_
  intro e w' h'
  rw [h] at h'
  obtain ⟨hB, A, A', c, c', he, hT, -⟩ := h'
  subst hn hp
  exact ⟨A, A', c, c', he, hT, hB⟩
theorem parse_no (l : List UInt8) (q : Nat) (x : Int) (hl : l.length ≤ 300) (h : Tr.rparse 600 l = .no q x) (w : World) :
    Calls Tryd.prog 21 #[.string ⟨l.toArray⟩] w fun e w' => e = .returned (.tuple #[.agg #[.slice none 0 0, .slice none 0 0], .int .i64 q, .int .i64 x]) ∧ Below w.heap.size w w' := by
  refine (rparse_any l hl w).mono ?_
  intro e w' h'
  rw [h] at h'
  exact ⟨h'.2, h'.1⟩
def awL : List (Bool × T) := [(true, .set ⟨0, 8589934592, 0, 0⟩), (false, .tms (.set ⟨0, 17179869184, 0, 0⟩) 0 (-1))]
def awN : List Nd := [⟨2, ⟨0, 8589934592, 0, 0⟩, 0, 0, 0, 0⟩, ⟨2, ⟨0, 17179869184, 0, 0⟩, 0, 0, 0, 0⟩, ⟨5, W4.zero, 1, 0, 0, -1⟩]
def awP : List Pt := [⟨0, true⟩, ⟨2, false⟩]
theorem aw_1 : Tr.rparse 600 [33, 97, 38, 98, 42] = .ok awL [] 5 := by kernel_rfl
theorem aw_2 : Tr.rparse 600 [97, 42, 42] = .no 2 8 := by kernel_rfl
theorem aw_a : W4.ofList [97] = ⟨0, 8589934592, 0, 0⟩ := by decide +kernel
theorem aw_b : W4.ofList [98] = ⟨0, 17179869184, 0, 0⟩ := by decide +kernel
theorem of_lit (c : UInt8) (x : Int) (s : W4) (hx : (c.toNat : Int) = x) (hs : W4.ofList [c] = s) (z : World) (gz : Nat) (hz : z.heap.size = gz) : Calls Tryd.prog 8 #[.slice (some ⟨gz, 0, none⟩) 1 1] (z.alloc (.cells #[.int .u8 x] 5)) fun e w' => e = .returned (.agg #[.int .u64 s.a, .int .u64 s.b, .int .u64 s.c, .int .u64 s.d]) ∧ Below z.heap.size z w' := by
  subst hx hs
  exact of_one c z gz hz
theorem rnodes_blk {w : World} {g : Nat} {t : TypeId} {ns : List Nd} (h : w.heap[g]? = some (.cells (ns.flatMap ndC).toArray t (0, 0))) : NodesAt w (some ⟨g, 0, none⟩) ns := by
  intro i hi
  have hc : ∀ j u, j < 9 → (ndC ns[i])[j]? = some u → w.cell? ⟨g, i * 9 + j, none⟩ = some u := by
    intro j u hj hu
    rw [blk_cell h (i * 9 + j), List.getElem?_toArray, rflat_at ndC 9 (fun _ => rfl) ns i hi j hj]
    exact hu
  have ha : (⟨g, 0, none⟩ : Addr).add (i * 9) = ⟨g, i * 9, none⟩ := by unfold Addr.add; split <;> simp_all
  refine ⟨_, rfl, blk_lt h, ?_⟩
  rw [ha]
  exact ⟨hc 0 _ (by omega) rfl, hc 1 _ (by omega) rfl, hc 2 _ (by omega) rfl, hc 3 _ (by omega) rfl, hc 4 _ (by omega) rfl, hc 5 _ (by omega) rfl, hc 6 _ (by omega) rfl, hc 7 _ (by omega) rfl, hc 8 _ (by omega) rfl⟩
theorem rparts_blk {w : World} {g : Nat} {t : TypeId} {ps : List Pt} (h : w.heap[g]? = some (.cells (ps.flatMap ptC).toArray t (0, 0))) : PartsAt w (some ⟨g, 0, none⟩) ps := by
  intro i hi
  have hc : ∀ j u, j < 2 → (ptC ps[i])[j]? = some u → w.cell? ⟨g, i * 2 + j, none⟩ = some u := by
    intro j u hj hu
    rw [blk_cell h (i * 2 + j), List.getElem?_toArray, rflat_at ptC 2 (fun _ => rfl) ps i hi j hj]
    exact hu
  have ha : (⟨g, 0, none⟩ : Addr).add (i * 2) = ⟨g, i * 2, none⟩ := by unfold Addr.add; split <;> simp_all
  refine ⟨_, rfl, blk_lt h, ?_⟩
  rw [ha]
  exact ⟨hc 0 _ (by omega) rfl, hc 1 _ (by omega) rfl⟩
theorem awN_ok : ∀ n ∈ awN, NdOk n := by
  intro n hn
  have : n = ⟨2, ⟨0, 8589934592, 0, 0⟩, 0, 0, 0, 0⟩ ∨ n = ⟨2, ⟨0, 17179869184, 0, 0⟩, 0, 0, 0, 0⟩ ∨ n = ⟨5, W4.zero, 1, 0, 0, -1⟩ := by simpa [awN] using hn
  rcases this with rfl | rfl | rfl <;> exact ⟨by decide, ⟨by decide, by decide, by decide, by decide⟩, by decide, by decide, by decide, by decide⟩
theorem cell_lt {w : World} {g i : Nat} {v : Value} (h : w.cell? ⟨g, i, none⟩ = some v) : g < w.heap.size := by
  rcases Nat.lt_or_ge g w.heap.size with h1 | h1
  · exact h1
  · simp [World.cell?, Array.getElem?_eq_none h1] at h
set_option maxRecDepth 100000 in
set_option maxHeartbeats 3200000 in
theorem rawake_any (w : World) : Calls Tryd.prog 20 #[] w fun e w' => e = .returned (.bool true) ∧ Below w.heap.size w w' := by
  go_enter Tryd.func20, Tryd.ntmps20
  go_wp2_with fail
  refine (parse_ok [33, 97, 38, 98, 42] awL [] 5 awN awP (by decide) aw_1 rfl rfl w).mono ?_
  rintro e w1 ⟨A, A', c, c', rfl, hT, B1⟩
  have HT := Lib.hid hT
  have HB1 := Lib.hid B1
  clear hT B1
  go_wp2_with fail
  refine (of_lit 97 97 ⟨0, 8589934592, 0, 0⟩ rfl aw_a _ _ (by simp)).mono ?_
  rintro e w2 ⟨rfl, B2⟩
  have HT2 : Hid (TreeAt w2 A A' awN awP ∧ w2.cell? ⟨w1.heap.size, 0, none⟩ = some (.slice A awN.length c) ∧ w2.cell? ⟨w1.heap.size, 1, none⟩ = some (.slice A' awP.length c') ∧ Below w.heap.size w w2) := Lib.hid (by
    have h0 : Below w1.heap.size w1 (w1.alloc (.cells #[.slice A awN.length c, .slice A' awP.length c'] 33)) := by (repeat (first | exact Below.refl _ _ | assumption | refine Below.drew ?_ | refine Below.alloc ?_ (by first | exact Nat.le_refl _ | (simp; done) | (simp; omega) | omega) _ | refine Below.setCell ?_ (by first | exact Nat.le_refl _ | (simp; done) | (simp; omega) | omega) _))
    have k := blk_below (blk_new w1 (.cells #[.slice A awN.length c, .slice A' awP.length c'] 33)) B2
    exact ⟨(HT.out.below h0).below B2, (blk_cell k 0).trans rfl, (blk_cell k 1).trans rfl, bthen (bthen HB1.out h0) B2⟩)
  clear B2 HT HB1
  go_wp2_with fail
  refine (of_lit 98 98 ⟨0, 17179869184, 0, 0⟩ rfl aw_b _ _ (by simp)).mono ?_
  rintro e w3 ⟨rfl, B3⟩
  obtain ⟨b1, hb1⟩ : ∃ b1, w1.heap.size = b1 := ⟨_, rfl⟩
  rw [hb1] at HT2 ⊢
  have HT3 : Hid (TreeAt w3 A A' awN awP ∧ w3.cell? ⟨b1, 0, none⟩ = some (.slice A awN.length c) ∧ w3.cell? ⟨b1, 1, none⟩ = some (.slice A' awP.length c') ∧ Below w.heap.size w w3 ∧ b1 < w3.heap.size) := Lib.hid (by
    have hlt : b1 < w2.heap.size := cell_lt HT2.out.2.1
    exact ⟨HT2.out.1.below B3, (B3.cell (p := ⟨b1, 0, none⟩) hlt).trans HT2.out.2.1, (B3.cell (p := ⟨b1, 1, none⟩) hlt).trans HT2.out.2.2.1, bthen HT2.out.2.2.2 B3, Nat.lt_of_lt_of_le hlt B3.size⟩)
  clear B3 HT2 hb1
  go_wp2_with fail
  obtain ⟨Y, hY⟩ : ∃ Y, Y = ((w3.alloc (.cells (awN.flatMap ndC).toArray 27)).alloc (.cells (awP.flatMap ptC).toArray 30)).alloc (.cells #[.slice (some ⟨w3.heap.size, 0, none⟩) 3 3, .slice (some ⟨w3.heap.size + 1, 0, none⟩) 2 2] 33) := ⟨_, rfl⟩
  change Calls _ _ _ (((w3.alloc (.cells (awN.flatMap ndC).toArray 27)).alloc (.cells (awP.flatMap ptC).toArray 30)).alloc (.cells #[.slice (some ⟨w3.heap.size, 0, none⟩) 3 3, .slice (some ⟨w3.heap.size + 1, 0, none⟩) 2 2] 33)) _
  rw [← hY]
  have h0 : Below w3.heap.size w3 Y := by rw [hY]; (repeat (first | exact Below.refl _ _ | assumption | refine Below.drew ?_ | refine Below.alloc ?_ (by first | exact Nat.le_refl _ | (simp; done) | (simp; omega) | omega) _ | refine Below.setCell ?_ (by first | exact Nat.le_refl _ | (simp; done) | (simp; omega) | omega) _))
  have hn : Y.heap[w3.heap.size]? = some (.cells (awN.flatMap ndC).toArray 27 (0, 0)) := by rw [hY]; exact blk_alloc (blk_alloc (blk_new _ _) _) _
  have hp : Y.heap[w3.heap.size + 1]? = some (.cells (awP.flatMap ptC).toArray 30 (0, 0)) := by rw [hY]; exact blk_alloc (rblk_new_at _ _ _ (by simp)) _
  have ht : Y.heap[w3.heap.size + 1 + 1]? = some (.cells #[.slice (some ⟨w3.heap.size, 0, none⟩) 3 3, .slice (some ⟨w3.heap.size + 1, 0, none⟩) 2 2] 33 (0, 0)) := by rw [hY]; exact rblk_new_at _ _ _ (by simp)
  have hTn : TreeAt Y (some ⟨w3.heap.size, 0, none⟩) (some ⟨w3.heap.size + 1, 0, none⟩) awN awP := ⟨rnodes_blk hn, rparts_blk hp, awN_ok, by decide, by decide, by decide⟩
  obtain ⟨b3, hb3⟩ : ∃ b3, w3.heap.size = b3 := ⟨_, rfl⟩
  have HY : Hid (∀ z, Below Y.heap.size Y z → TreeAt z A A' awN awP ∧ TreeAt z (some ⟨b3, 0, none⟩) (some ⟨b3 + 1, 0, none⟩) awN awP ∧ (z.cell? ⟨b1, 0, none⟩ = some (.slice A awN.length c) ∧ z.cell? ⟨b1, 1, none⟩ = some (.slice A' awP.length c') ∧ z.cell? ⟨b3 + 1 + 1, 0, none⟩ = some (.slice (some ⟨b3, 0, none⟩) 3 3) ∧ z.cell? ⟨b3 + 1 + 1, 1, none⟩ = some (.slice (some ⟨b3 + 1, 0, none⟩) 2 2)) ∧ Below w.heap.size w z) := Lib.hid fun z hz => by
    rw [hb3] at ht hTn
    have k := blk_below ht hz
    have h1 := HT3.out.1.below (bthen h0 hz)
    have hlt := HT3.out.2.2.2.2
    exact ⟨h1, hTn.below hz, ⟨((bthen h0 hz).cell (p := ⟨b1, 0, none⟩) hlt).trans HT3.out.2.1, ((bthen h0 hz).cell (p := ⟨b1, 1, none⟩) hlt).trans HT3.out.2.2.1, (blk_cell k 0).trans rfl, (blk_cell k 1).trans rfl⟩, bthen HT3.out.2.2.2.1 (bthen h0 hz)⟩
  rw [hb3]
  clear h0 hn hp ht hTn hY HT3 hb3
  refine (parse_no [97, 42, 42] 2 8 (by decide) aw_2 _).mono ?_
  rintro e w4 ⟨rfl, B4⟩
  have h4 : Below Y.heap.size Y (w4.alloc (.cells #[.slice none 0 0, .slice none 0 0] 33)) := B4.trans ((show Below w4.heap.size w4 _ by (repeat (first | exact Below.refl _ _ | assumption | refine Below.drew ?_ | refine Below.alloc ?_ (by first | exact Nat.le_refl _ | (simp; done) | (simp; omega) | omega) _ | refine Below.setCell ?_ (by first | exact Nat.le_refl _ | (simp; done) | (simp; omega) | omega) _))).mono B4.size)
  obtain ⟨g1, g2, ⟨k0, k1, k2, k3⟩, g4⟩ := HY.out _ h4
  have H4 := Lib.hid h4
  clear g1 g2 g4 B4
  go_wp2_with fail
  refine (same_any (ns := awN) (ps := awP) c c' 3 2 (HY.out _ H4.out).1 (HY.out _ H4.out).2.1).mono ?_
  rintro e w5 ⟨rfl, B5⟩
  have HZ := Lib.hid (bthen (HY.out _ H4.out).2.2.2 B5)
  clear B5
  go_wp2_with fail
  go_ret
  exact ⟨rfl, HZ.out⟩
end Go.Proofs.YtebkaajnnjfhjaaDoor
