/-
  Law 07's awake: walked.
-/
import Derived.Test.YtebkaajnnjfhjaaSm
namespace Go.Proofs.Ytebkaajnnjfhjaa
set_option linter.unusedVariables false
set_option linter.unusedSimpArgs false
open Go.RowKit Go.Proofs.YtebkaajnnjfhjaaW.PrintWords
open Tr (Nd Pt T R sz rootI post ndsL ptsL szL)

/-- Parse of a text whose answer is known. -/
theorem parse_ok (l : List UInt8) (L : List (Bool × T)) (r : List UInt8) (p : Nat) (ns : List Nd) (ps : List Pt) (hl : l.length ≤ 300) (h : Tr.rparse 600 l = .ok L r p) (hn : ndsL 0 L = ns) (hp : ptsL 0 L = ps) (w : World) :
    Calls Try.prog 5 #[.string ⟨l.toArray⟩] w fun e w' => ∃ A A' c c', e = .returned (.tuple #[.agg #[.slice A ns.length c, .slice A' ps.length c'], .int .i64 0, .int .i64 0]) ∧ TreeAt w' A A' ns ps ∧ Below w.heap.size w w' := by
  refine (rparse_any l hl w).mono ?_
  intro e w' h'
  rw [h] at h'
  obtain ⟨hB, A, A', c, c', he, hT, -⟩ := h'
  subst hn hp
  exact ⟨A, A', c, c', he, hT, hB⟩
theorem parse_no (l : List UInt8) (q : Nat) (x : Int) (hl : l.length ≤ 300) (h : Tr.rparse 600 l = .no q x) (w : World) :
    Calls Try.prog 5 #[.string ⟨l.toArray⟩] w fun e w' => e = .returned (.tuple #[.agg #[.slice none 0 0, .slice none 0 0], .int .i64 q, .int .i64 x]) ∧ Below w.heap.size w w' := by
  refine (rparse_any l hl w).mono ?_
  intro e w' h'
  rw [h] at h'
  exact ⟨h'.2, h'.1⟩
def awL : List (Bool × T) := [(true, .set ⟨0, 8589934592, 0, 0⟩), (false, .tms (.set ⟨0, 17179869184, 0, 0⟩) 0 (-1))]
def awN : List Nd := [⟨2, ⟨0, 8589934592, 0, 0⟩, 0, 0, 0, 0⟩, ⟨2, ⟨0, 17179869184, 0, 0⟩, 0, 0, 0, 0⟩, ⟨5, W4.zero, 1, 0, 0, -1⟩]
def awP : List Pt := [⟨0, true⟩, ⟨2, false⟩]
theorem aw_1 : Tr.rparse 600 [33, 97, 38, 98, 42] = .ok awL [] 5 := by kernel_rfl
theorem aw_2 : Tr.rparse 600 [97, 42, 42] = .no 2 8 := by kernel_rfl
theorem aw_a : W4.ofList [97] = ⟨0, 8589934592, 0, 0⟩ := by decide +kernel
theorem aw_b : W4.ofList [98] = ⟨0, 17179869184, 0, 0⟩ := by decide +kernel
theorem of_lit (c : UInt8) (x : Int) (s : W4) (hx : (c.toNat : Int) = x) (hs : W4.ofList [c] = s) (z : World) (gz : Nat) (hz : z.heap.size = gz) : Calls Try.prog 8 #[.slice (some ⟨gz, 0, none⟩) 1 1] (z.alloc (.cells #[.int .u8 x] 5)) fun e w' => e = .returned (.agg #[.int .u64 s.a, .int .u64 s.b, .int .u64 s.c, .int .u64 s.d]) ∧ Below z.heap.size z w' := by
  subst hx hs
  exact of_one c z gz hz
theorem rnodes_blk {w : World} {g : Nat} {t : TypeId} {ns : List Nd} (h : w.heap[g]? = some (.cells (ns.flatMap ndC).toArray t (0, 0))) : NodesAt w (some ⟨g, 0, none⟩) ns := by
  intro i hi
  have hc : ∀ j u, j < 9 → (ndC ns[i])[j]? = some u → w.cell? ⟨g, i * 9 + j, none⟩ = some u := by
    intro j u hj hu
    rw [blk_cell h (i * 9 + j), List.getElem?_toArray, rflat_at ndC 9 (fun _ => rfl) ns i hi j hj]
    exact hu
  have ha : (⟨g, 0, none⟩ : Addr).add (i * 9) = ⟨g, i * 9, none⟩ := by unfold Addr.add; split <;> simp_all
  refine ⟨_, rfl, blk_lt h, ?_⟩
  rw [ha]
  exact ⟨hc 0 _ (by omega) rfl, hc 1 _ (by omega) rfl, hc 2 _ (by omega) rfl, hc 3 _ (by omega) rfl, hc 4 _ (by omega) rfl, hc 5 _ (by omega) rfl, hc 6 _ (by omega) rfl, hc 7 _ (by omega) rfl, hc 8 _ (by omega) rfl⟩
theorem rparts_blk {w : World} {g : Nat} {t : TypeId} {ps : List Pt} (h : w.heap[g]? = some (.cells (ps.flatMap ptC).toArray t (0, 0))) : PartsAt w (some ⟨g, 0, none⟩) ps := by
  intro i hi
  have hc : ∀ j u, j < 2 → (ptC ps[i])[j]? = some u → w.cell? ⟨g, i * 2 + j, none⟩ = some u := by
    intro j u hj hu
    rw [blk_cell h (i * 2 + j), List.getElem?_toArray, rflat_at ptC 2 (fun _ => rfl) ps i hi j hj]
    exact hu
  have ha : (⟨g, 0, none⟩ : Addr).add (i * 2) = ⟨g, i * 2, none⟩ := by unfold Addr.add; split <;> simp_all
  refine ⟨_, rfl, blk_lt h, ?_⟩
  rw [ha]
  exact ⟨hc 0 _ (by omega) rfl, hc 1 _ (by omega) rfl⟩
theorem awN_ok : ∀ n ∈ awN, NdOk n := by
  intro n hn
  have : n = ⟨2, ⟨0, 8589934592, 0, 0⟩, 0, 0, 0, 0⟩ ∨ n = ⟨2, ⟨0, 17179869184, 0, 0⟩, 0, 0, 0, 0⟩ ∨ n = ⟨5, W4.zero, 1, 0, 0, -1⟩ := by simpa [awN] using hn
  rcases this with rfl | rfl | rfl <;> exact ⟨by decide, ⟨by decide, by decide, by decide, by decide⟩, by decide, by decide, by decide, by decide⟩
theorem cell_lt {w : World} {g i : Nat} {v : Value} (h : w.cell? ⟨g, i, none⟩ = some v) : g < w.heap.size := by
  rcases Nat.lt_or_ge g w.heap.size with h1 | h1
  · exact h1
  · simp [World.cell?, Array.getElem?_eq_none h1] at h
set_option maxRecDepth 100000 in
set_option maxHeartbeats 3200000 in
theorem rawake_any (w : World) : Calls Try.prog 10 #[] w fun e w' => e = .returned (.bool true) ∧ Below w.heap.size w w' := by
  go_enter Try.func10, Try.ntmps10
  go_wp2_with fail
  refine (parse_ok [33, 97, 38, 98, 42] awL [] 5 awN awP (by decide) aw_1 rfl rfl w).mono ?_
  rintro e w1 ⟨A, A', c, c', rfl, hT, B1⟩
  have HT := Lib.hid hT
  have HB1 := Lib.hid B1
  clear hT B1
  go_wp2_with fail
  refine (of_lit 97 97 ⟨0, 8589934592, 0, 0⟩ rfl aw_a _ _ (by simp)).mono ?_
  rintro e w2 ⟨rfl, B2⟩
  have HT2 : Hid (TreeAt w2 A A' awN awP ∧ w2.cell? ⟨w1.heap.size, 0, none⟩ = some (.slice A awN.length c) ∧ w2.cell? ⟨w1.heap.size, 1, none⟩ = some (.slice A' awP.length c') ∧ Below w.heap.size w w2) := Lib.hid (by
    have h0 : Below w1.heap.size w1 (w1.alloc (.cells #[.slice A awN.length c, .slice A' awP.length c'] 27)) := by (repeat (first | exact Below.refl _ _ | assumption | refine Below.drew ?_ | refine Below.alloc ?_ (by first | exact Nat.le_refl _ | (simp; done) | (simp; omega) | omega) _ | refine Below.setCell ?_ (by first | exact Nat.le_refl _ | (simp; done) | (simp; omega) | omega) _))
    have k := blk_below (blk_new w1 (.cells #[.slice A awN.length c, .slice A' awP.length c'] 27)) B2
    exact ⟨(HT.out.below h0).below B2, (blk_cell k 0).trans rfl, (blk_cell k 1).trans rfl, bthen (bthen HB1.out h0) B2⟩)
  clear B2 HT HB1
  go_wp2_with fail
  refine (of_lit 98 98 ⟨0, 17179869184, 0, 0⟩ rfl aw_b _ _ (by simp)).mono ?_
  rintro e w3 ⟨rfl, B3⟩
  obtain ⟨b1, hb1⟩ : ∃ b1, w1.heap.size = b1 := ⟨_, rfl⟩
  rw [hb1] at HT2 ⊢
  have HT3 : Hid (TreeAt w3 A A' awN awP ∧ w3.cell? ⟨b1, 0, none⟩ = some (.slice A awN.length c) ∧ w3.cell? ⟨b1, 1, none⟩ = some (.slice A' awP.length c') ∧ Below w.heap.size w w3 ∧ b1 < w3.heap.size) := Lib.hid (by
    have hlt : b1 < w2.heap.size := cell_lt HT2.out.2.1
    exact ⟨HT2.out.1.below B3, (B3.cell (p := ⟨b1, 0, none⟩) hlt).trans HT2.out.2.1, (B3.cell (p := ⟨b1, 1, none⟩) hlt).trans HT2.out.2.2.1, bthen HT2.out.2.2.2 B3, Nat.lt_of_lt_of_le hlt B3.size⟩)
  clear B3 HT2 hb1
  go_wp2_with fail
  obtain ⟨Y, hY⟩ : ∃ Y, Y = ((w3.alloc (.cells (awN.flatMap ndC).toArray 36)).alloc (.cells (awP.flatMap ptC).toArray 50)).alloc (.cells #[.slice (some ⟨w3.heap.size, 0, none⟩) 3 3, .slice (some ⟨w3.heap.size + 1, 0, none⟩) 2 2] 27) := ⟨_, rfl⟩
  change Calls _ _ _ (((w3.alloc (.cells (awN.flatMap ndC).toArray 36)).alloc (.cells (awP.flatMap ptC).toArray 50)).alloc (.cells #[.slice (some ⟨w3.heap.size, 0, none⟩) 3 3, .slice (some ⟨w3.heap.size + 1, 0, none⟩) 2 2] 27)) _
  rw [← hY]
  have h0 : Below w3.heap.size w3 Y := by rw [hY]; (repeat (first | exact Below.refl _ _ | assumption | refine Below.drew ?_ | refine Below.alloc ?_ (by first | exact Nat.le_refl _ | (simp; done) | (simp; omega) | omega) _ | refine Below.setCell ?_ (by first | exact Nat.le_refl _ | (simp; done) | (simp; omega) | omega) _))
  have hn : Y.heap[w3.heap.size]? = some (.cells (awN.flatMap ndC).toArray 36 (0, 0)) := by rw [hY]; exact blk_alloc (blk_alloc (blk_new _ _) _) _
  have hp : Y.heap[w3.heap.size + 1]? = some (.cells (awP.flatMap ptC).toArray 50 (0, 0)) := by rw [hY]; exact blk_alloc (rblk_new_at _ _ _ (by simp)) _
  have ht : Y.heap[w3.heap.size + 1 + 1]? = some (.cells #[.slice (some ⟨w3.heap.size, 0, none⟩) 3 3, .slice (some ⟨w3.heap.size + 1, 0, none⟩) 2 2] 27 (0, 0)) := by rw [hY]; exact rblk_new_at _ _ _ (by simp)
  have hTn : TreeAt Y (some ⟨w3.heap.size, 0, none⟩) (some ⟨w3.heap.size + 1, 0, none⟩) awN awP := ⟨rnodes_blk hn, rparts_blk hp, awN_ok, by decide, by decide, by decide⟩
  obtain ⟨b3, hb3⟩ : ∃ b3, w3.heap.size = b3 := ⟨_, rfl⟩
  have HY : Hid (∀ z, Below Y.heap.size Y z → TreeAt z A A' awN awP ∧ TreeAt z (some ⟨b3, 0, none⟩) (some ⟨b3 + 1, 0, none⟩) awN awP ∧ (z.cell? ⟨b1, 0, none⟩ = some (.slice A awN.length c) ∧ z.cell? ⟨b1, 1, none⟩ = some (.slice A' awP.length c') ∧ z.cell? ⟨b3 + 1 + 1, 0, none⟩ = some (.slice (some ⟨b3, 0, none⟩) 3 3) ∧ z.cell? ⟨b3 + 1 + 1, 1, none⟩ = some (.slice (some ⟨b3 + 1, 0, none⟩) 2 2)) ∧ Below w.heap.size w z) := Lib.hid fun z hz => by
    rw [hb3] at ht hTn
    have k := blk_below ht hz
    have h1 := HT3.out.1.below (bthen h0 hz)
    have hlt := HT3.out.2.2.2.2
    exact ⟨h1, hTn.below hz, ⟨((bthen h0 hz).cell (p := ⟨b1, 0, none⟩) hlt).trans HT3.out.2.1, ((bthen h0 hz).cell (p := ⟨b1, 1, none⟩) hlt).trans HT3.out.2.2.1, (blk_cell k 0).trans rfl, (blk_cell k 1).trans rfl⟩, bthen HT3.out.2.2.2.1 (bthen h0 hz)⟩
  rw [hb3]
  clear h0 hn hp ht hTn hY HT3 hb3
  refine (parse_no [97, 42, 42] 2 8 (by decide) aw_2 _).mono ?_
  rintro e w4 ⟨rfl, B4⟩
  have h4 : Below Y.heap.size Y (w4.alloc (.cells #[.slice none 0 0, .slice none 0 0] 27)) := B4.trans ((show Below w4.heap.size w4 _ by (repeat (first | exact Below.refl _ _ | assumption | refine Below.drew ?_ | refine Below.alloc ?_ (by first | exact Nat.le_refl _ | (simp; done) | (simp; omega) | omega) _ | refine Below.setCell ?_ (by first | exact Nat.le_refl _ | (simp; done) | (simp; omega) | omega) _))).mono B4.size)
  obtain ⟨g1, g2, ⟨k0, k1, k2, k3⟩, g4⟩ := HY.out _ h4
  have H4 := Lib.hid h4
  clear g1 g2 g4 B4
  go_wp2_with fail
  refine (same_any (ns := awN) (ps := awP) c c' 3 2 (HY.out _ H4.out).1 (HY.out _ H4.out).2.1).mono ?_
  rintro e w5 ⟨rfl, B5⟩
  have HZ := Lib.hid (bthen (HY.out _ H4.out).2.2.2 B5)
  clear B5
  go_wp2_with fail
  go_ret
  exact ⟨rfl, HZ.out⟩
end Go.Proofs.Ytebkaajnnjfhjaa
