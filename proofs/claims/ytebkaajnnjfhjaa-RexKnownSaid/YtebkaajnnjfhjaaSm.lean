/-
  Law 07's same, of two trees that are one: walked.
-/
import Derived.Test.YtebkaajnnjfhjaaRxD
namespace Go.Proofs.Ytebkaajnnjfhjaa
set_option linter.unusedVariables false
set_option linter.unusedSimpArgs false
open Go.RowKit Go.Proofs.YtebkaajnnjfhjaaW.PrintWords
open Tr (Nd Pt T R sz rootI post ndsL ptsL szL)

theorem eqPt (d : Nat) (w : World) (p q : Pt) : (Op.equalIn (d + 2) 50 (.agg #[.int .i64 p.root, .bool p.no]) (.agg #[.int .i64 q.root, .bool q.no])).run Try.prog w = .ok ((p.root == q.root) && (p.no == q.no)) w := by
  refine eqA_of Try.underlying50 (by kernel_rfl) ?_
  refine eqf_cons (by rfl) (by go_simp; rfl) (by go_simp; rfl) (by go_simp) ?_
  exact eqf_last (by rfl) (by go_simp; rfl) (by go_simp; rfl) (by go_simp)
theorem neqP (p : Pt) (w : World) : (binOp .neq 50 (.agg #[.int .i64 p.root, .bool p.no]) (.agg #[.int .i64 p.root, .bool p.no])).run Try.prog w = .ok (.bool false) w := by
  have := bop_neqA 50 _ _ _ w (eqPt 9998 w p p)
  rw [beq_self_eq_true, beq_self_eq_true] at this
  exact this
theorem eqg_pt (op : BinOp) (x y : Operand) (xs ys : Array Value) (w : World) : (eqGuard op 50 x y (.agg xs) (.agg ys)).run Try.prog w = .ok () w := run_eqGuard_agg w op 50 x y xs ys (by kernel_rfl)
set_option maxRecDepth 100000 in
set_option maxHeartbeats 3200000 in
theorem same_any {w : World} {A A' B B' : Option Addr} {ns : List Nd} {ps : List Pt} (c c' d d' : Nat) (h : TreeAt w A A' ns ps) (k : TreeAt w B B' ns ps) :
    Calls Try.prog 6 #[.agg #[.slice A ns.length c, .slice A' ps.length c'], .agg #[.slice B ns.length d, .slice B' ps.length d']] w fun e w' => e = .returned (.bool true) ∧ Below w.heap.size w w' := by
  have HH := Lib.hid h
  have HK := Lib.hid k
  have hnl := h.nlen
  have hpl := h.plen
  clear h k
  go_enter Try.func6, Try.ntmps6
  go_wp2_with fail
  obtain ⟨X, hX⟩ : ∃ X, X = (w.alloc (.cells #[.slice A ns.length c, .slice A' ps.length c'] 27)).alloc (.cells #[.slice B ns.length d, .slice B' ps.length d'] 27) := ⟨_, rfl⟩
  have hBX : Below w.heap.size w X := by rw [hX]; (repeat (first | exact Below.refl _ _ | assumption | refine Below.drew ?_ | refine Below.alloc ?_ (by first | exact Nat.le_refl _ | (simp; done) | (simp; omega) | omega) _ | refine Below.setCell ?_ (by first | exact Nat.le_refl _ | (simp; done) | (simp; omega) | omega) _))
  have hb0 : X.heap[w.heap.size]? = some (.cells #[.slice A ns.length c, .slice A' ps.length c'] 27 (0, 0)) := by rw [hX]; exact blk_alloc (blk_new w _) _
  have hb1 : X.heap[w.heap.size + 1]? = some (.cells #[.slice B ns.length d, .slice B' ps.length d'] 27 (0, 0)) := by rw [hX]; exact rblk_new_at _ _ _ (by simp)
  rw [← hX]
  have HB0 := Lib.hid hb0
  have HB1 := Lib.hid hb1
  have HBX := Lib.hid hBX
  have HHX := Lib.hid (HH.out.below hBX)
  have HKX := Lib.hid (HK.out.below hBX)
  clear hb0 hb1 hBX hX HH HK
  obtain ⟨a, hwa⟩ : ∃ a, w.heap.size = a := ⟨_, rfl⟩
  have HWA := Lib.hid hwa
  rw [hwa] at HB0 HB1 HBX ⊢
  clear hwa
  have HCX : Hid (∀ z, Below X.heap.size X z → z.cell? ⟨a, 0, none⟩ = some (.slice A ns.length c) ∧ z.cell? ⟨a, 1, none⟩ = some (.slice A' ps.length c') ∧ z.cell? ⟨a + 1, 0, none⟩ = some (.slice B ns.length d) ∧ z.cell? ⟨a + 1, 1, none⟩ = some (.slice B' ps.length d')) := Lib.hid fun z hz => by
    have k0 := blk_below HB0.out hz
    have k1 := blk_below HB1.out hz
    exact ⟨(blk_cell k0 0).trans rfl, (blk_cell k0 1).trans rfl, (blk_cell k1 0).trans rfl, (blk_cell k1 1).trans rfl⟩
  have hX0 := HCX.out X (Below.refl _ _)
  obtain ⟨x0, x1, x2, x3⟩ := hX0
  go_loopw [5] (fun i wr => ∃ q : Nat, q ≤ ns.length ∧ i = .int .i64 q ∧ Hid (Below X.heap.size X wr)) (fun i _ => ns.length - (RowKit.intOf i).toNat)
  case atStart => exact ⟨0, by omega, rfl, Lib.hid (Below.refl _ _)⟩
  case round =>
    obtain ⟨q, hq, rfl, HBR⟩ := hrel
    clear x0 x1 x2 x3
    obtain ⟨x0, x1, x2, x3⟩ := HCX.out _ HBR.out
    by_cases hlt : q < ns.length
    · obtain ⟨g, rfl, hab, hN⟩ := HHX.out.nodes q hlt
      obtain ⟨b, rfl, hbb, hM⟩ := HKX.out.nodes q hlt
      obtain ⟨c0, c1, c2, c3, c4, c5, c6, c7, c8⟩ := hN.below HBR.out (by rw [add_block]; exact hab)
      obtain ⟨d0, d1, d2, d3, d4, d5, d6, d7, d8⟩ := hM.below HBR.out (by rw [add_block]; exact hbb)
      generalize ns[q] = n at *
      have hne := fun w => neq_nd n n w
      have heg := fun op u v w => eqg_nd op u v #[.int .u8 n.k, .int .u64 n.s.a, .int .u64 n.s.b, .int .u64 n.s.c, .int .u64 n.s.d, .int .i64 n.a, .int .i64 n.b, .int .i64 n.mn, .int .i64 n.mx] #[.int .u8 n.k, .int .u64 n.s.a, .int .u64 n.s.b, .int .u64 n.s.c, .int .u64 n.s.d, .int .i64 n.a, .int .i64 n.b, .int .i64 n.mn, .int .i64 n.mx] w
      rw [decide_eq_true (rfl : n = n)] at hne
      have e2 : (q : Int) < ns.length := by omega
      have e3 : (0 : Int) ≤ (q : Int) := by omega
      clear hN hM
      go_wp2_with fail
      go_quiet (fail)
      go_wp2_with fail
      go_roundw
      case rel => exact ⟨q + 1, by omega, by go_num, Lib.hid (rx_drewN HBR.out nq)⟩
      case measure => simp [RowKit.intOf]; omega
    · have hle : decide ((q : Int) < ns.length) = false := decide_eq_false (by omega)
      go_wp2_with fail
      go_loopw [6] (fun i wr2 => ∃ q : Nat, q ≤ ps.length ∧ i = .int .i64 q ∧ Hid (Below X.heap.size X wr2)) (fun i _ => ps.length - (RowKit.intOf i).toNat)
      case atStart => exact ⟨0, by omega, rfl, HBR⟩
      case round =>
        clear HBR x0 x1 x2 x3 hle hlt hq
        obtain ⟨q, hq, rfl, HBR⟩ := hrel
        obtain ⟨x0, x1, x2, x3⟩ := HCX.out _ HBR.out
        by_cases hlt : q < ps.length
        · obtain ⟨g, rfl, hab, hN0, hN1⟩ := HHX.out.parts q hlt
          obtain ⟨b, rfl, hbb, hM0, hM1⟩ := HKX.out.parts q hlt
          have c0 := (HBR.out.cell (p := g.add (q * 2)) (by rw [add_block]; exact hab)).trans hN0
          have c1 := (HBR.out.cell (p := ⟨(g.add (q * 2)).block, (g.add (q * 2)).off + 1, none⟩) (by show (g.add (q * 2)).block < _; rw [add_block]; exact hab)).trans hN1
          have d0 := (HBR.out.cell (p := b.add (q * 2)) (by rw [add_block]; exact hbb)).trans hM0
          have d1 := (HBR.out.cell (p := ⟨(b.add (q * 2)).block, (b.add (q * 2)).off + 1, none⟩) (by show (b.add (q * 2)).block < _; rw [add_block]; exact hbb)).trans hM1
          generalize ps[q] = n at *
          have hne := fun w => neqP n w
          have heg := fun op u v w => eqg_pt op u v #[.int .i64 n.root, .bool n.no] #[.int .i64 n.root, .bool n.no] w
          have e2 : (q : Int) < ps.length := by omega
          have e3 : (0 : Int) ≤ (q : Int) := by omega
          clear hN0 hN1 hM0 hM1
          go_wp2_with fail
          go_quiet (fail)
          go_wp2_with fail
          go_roundw
          case rel => exact ⟨q + 1, by omega, by go_num, Lib.hid (rx_drewN HBR.out nq)⟩
          case measure => simp [RowKit.intOf]; omega
        · have hle : decide ((q : Int) < ps.length) = false := decide_eq_false (by omega)
          have HZ : Hid (Below a w _) := Lib.hid (HBX.out.trans (HBR.out.mono (by rw [← HWA.out] at HBX ⊢; exact HBX.out.size)))
          go_wp2_with fail
          go_ret
          exact ⟨rfl, by rw [HWA.out]; exact HZ.out⟩
end Go.Proofs.Ytebkaajnnjfhjaa
