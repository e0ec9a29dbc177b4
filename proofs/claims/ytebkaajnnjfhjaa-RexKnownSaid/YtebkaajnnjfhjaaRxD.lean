/-
  Parse: walked.
-/
import Derived.Test.YtebkaajnnjfhjaaRxC
import Derived.Test.YtebkaajnnjfhjaaOk
namespace Go.Proofs.Ytebkaajnnjfhjaa
set_option linter.unusedVariables false
set_option linter.unusedSimpArgs false
open Go.RowKit Go.Proofs.YtebkaajnnjfhjaaW.PrintWords
open Tr (Nd Pt T R sz rootI post ndsL ptsL szL)

namespace Tr
def rparse (f0 : Nat) (l : B) : R (List (Bool × T)) := if 200 < l.length then .no 200 3 else
  (cons f0 16 f0 [] l 0).bnd fun ps r p => if 63 < places (ndsL 0 ps) (ptsL 0 ps) then .no l.length 3 else .ok ps r p
end Tr
theorem rflat_at {α : Type} (f : α → List Value) (s : Nat) (hs : ∀ a, (f a).length = s) (l : List α) : ∀ (i : Nat) (h : i < l.length) (j : Nat), j < s → (l.flatMap f)[i * s + j]? = (f l[i])[j]? := by
  induction l with
  | nil => intro i h; simp at h
  | cons a l ih =>
    intro i h j hj
    rw [List.flatMap_cons]
    rcases i with _ | i
    · rw [Nat.zero_mul, Nat.zero_add, List.getElem?_append_left (by rw [hs]; exact hj)]
      rfl
    · have e : (i + 1) * s + j = (f a).length + (i * s + j) := by rw [hs, Nat.add_mul]; omega
      rw [e, List.getElem?_append_right (by omega), Nat.add_sub_cancel_left]
      exact ih i (by simpa using h) j hj
theorem NodesAt.row {w : World} {base : Nat} {A : Option Addr} {c : Nat} {ns : List Nd} (h : w.ownsRow base 36 9 (.slice A ns.length c) ns.length (ns.flatMap ndC)) : NodesAt w A ns := by
  intro i hi
  rcases h.2 with ⟨e, h0⟩ | ⟨g, cap, cur, e, hb, hg, h1, h2, h3, h4⟩
  · omega
  · injection e with e1 e2 e3
    subst e1
    have hc : ∀ j u, j < 9 → (ndC ns[i])[j]? = some u → w.cell? ⟨g, i * 9 + j, none⟩ = some u := by
      intro j u hj hu
      rw [blk_cell hg (i * 9 + j)]
      have := rflat_at ndC 9 (fun _ => rfl) ns i hi j hj
      rw [hu, ← h4, List.getElem?_take_of_lt (by omega)] at this
      simpa using this
    have ha : (⟨g, 0, none⟩ : Addr).add (i * 9) = ⟨g, i * 9, none⟩ := by unfold Addr.add; split <;> simp_all
    refine ⟨_, rfl, blk_lt hg, ?_⟩
    rw [ha]
    exact ⟨hc 0 _ (by omega) rfl, hc 1 _ (by omega) rfl, hc 2 _ (by omega) rfl, hc 3 _ (by omega) rfl, hc 4 _ (by omega) rfl, hc 5 _ (by omega) rfl, hc 6 _ (by omega) rfl, hc 7 _ (by omega) rfl, hc 8 _ (by omega) rfl⟩
theorem PartsAt.row {w : World} {base : Nat} {A : Option Addr} {c : Nat} {ps : List Pt} (h : w.ownsRow base 50 2 (.slice A ps.length c) ps.length (ps.flatMap ptC)) : PartsAt w A ps := by
  intro i hi
  rcases h.2 with ⟨e, h0⟩ | ⟨g, cap, cur, e, hb, hg, h1, h2, h3, h4⟩
  · omega
  · injection e with e1 e2 e3
    subst e1
    have hc : ∀ j u, j < 2 → (ptC ps[i])[j]? = some u → w.cell? ⟨g, i * 2 + j, none⟩ = some u := by
      intro j u hj hu
      rw [blk_cell hg (i * 2 + j)]
      have := rflat_at ptC 2 (fun _ => rfl) ps i hi j hj
      rw [hu, ← h4, List.getElem?_take_of_lt (by omega)] at this
      simpa using this
    have ha : (⟨g, 0, none⟩ : Addr).add (i * 2) = ⟨g, i * 2, none⟩ := by unfold Addr.add; split <;> simp_all
    refine ⟨_, rfl, blk_lt hg, ?_⟩
    rw [ha]
    exact ⟨hc 0 _ (by omega) rfl, hc 1 _ (by omega) rfl⟩
theorem nd_ok {x : Nd} {n : Nat} (hn : n ≤ 100000) (h : Tr.may x = true) (hs : x.s.Ok) (hc : ∀ c ∈ Tr.below x, (0 : Int) ≤ c ∧ c < (n : Int)) : NdOk x := by
  have hk := Tr.may_kind h
  have ht := Tr.may_times h
  have hb := Tr.bare_all h
  refine ⟨by omega, hs, ?_, ?_, by omega, by omega⟩
  · rcases Tr.below_cases x with ⟨hk34, e⟩ | ⟨hk5, e⟩ | ⟨k3, k4, k5, e⟩
    · have := hc x.a (by rw [e]; simp); omega
    · have := hc x.a (by rw [e]; simp); omega
    · have := hb.1 k3 k4 k5; omega
  · rcases Tr.below_cases x with ⟨hk34, e⟩ | ⟨hk5, e⟩ | ⟨k3, k4, k5, e⟩
    · have := hc x.b (by rw [e]; simp); omega
    · have := hb.2 (by omega) (by omega); omega
    · have := hb.2 k3 k4; omega
/-- The tree that was read, in memory. -/
theorem tree_read {w : World} {base : Nat} {A A' : Option Addr} {c c' : Nat} {L : List (Bool × T)} (hL : ∀ x ∈ L, x.2.Ok) (hz : szL L ≤ 100000) (hl : L.length ≤ 20)
    (hN : w.ownsRow base 36 9 (.slice A (ndsL 0 L).length c) (ndsL 0 L).length ((ndsL 0 L).flatMap ndC)) (hP : w.ownsRow base 50 2 (.slice A' (ptsL 0 L).length c') (ptsL 0 L).length ((ptsL 0 L).flatMap ptC)) : TreeAt w A A' (ndsL 0 L) (ptsL 0 L) where
  nodes := NodesAt.row hN
  parts := PartsAt.row hP
  nok := fun n hn => by
    obtain ⟨h1, h2⟩ := Tr.ndsL_may L hL 0 n hn
    obtain ⟨i, hi, rfl⟩ := List.getElem_of_mem hn
    refine nd_ok (n := (ndsL 0 L).length) (by rw [Tr.ndsL_len]; exact hz) h1 h2 fun c hc => ?_
    have := Tr.ndsL_Dn L i _ (List.getElem?_eq_getElem hi) c hc
    omega
  pok := fun p hp => by have := Tr.ptsL_rt L 0 p hp; omega
  nlen := by rw [Tr.ndsL_len]; omega
  plen := by rw [Tr.ptsL_len]; omega
/-- What Parse says. -/
def OutParse (w : World) (res : R (List (Bool × T))) (e : Ending) (w' : World) : Prop := Below w.heap.size w w' ∧ match res with
  | .ok L _ _ => ∃ A A' c c', e = .returned (.tuple #[.agg #[.slice A (ndsL 0 L).length c, .slice A' (ptsL 0 L).length c'], .int .i64 0, .int .i64 0]) ∧ TreeAt w' A A' (ndsL 0 L) (ptsL 0 L) ∧ szL L ≤ 600
  | .no q x => e = .returned (.tuple #[.agg #[.slice none 0 0, .slice none 0 0], .int .i64 q, .int .i64 x])
theorem rblk_new_at (W : World) (o : Obj) (g : Nat) (h : W.heap.size = g) : (W.alloc o).heap[g]? = some o := h ▸ blk_new W o
theorem own_nil (w : World) (base : Nat) (t : TypeId) (s : Nat) : w.ownsRow base t s (.slice none 0 0) 0 [] := ⟨by simp, .inl ⟨rfl, rfl⟩⟩
set_option maxRecDepth 100000 in
set_option maxHeartbeats 3200000 in
theorem rparse_any (l : List UInt8) (hl : l.length ≤ 300) (w : World) : Calls Try.prog 5 #[.string ⟨l.toArray⟩] w (OutParse w (Tr.rparse 600 l)) := by
  have hmf : ∀ (fn : Fn) (first cap : Array Value) (w : World), (Instr.makeFunc fn first cap).run Try.prog w = .ok (.func fn first cap) w := fun _ _ _ _ => rfl
  by_cases h200 : 200 < l.length
  · have hres : Hid (Tr.rparse 600 l = .no 200 3) := Lib.hid (if_pos h200)
    rw [hres.out]
    have ht : decide ((200 : Int) < l.length) = true := decide_eq_true (by omega)
    clear hl h200
    go_enter_defers Try.func5, Try.ntmps5
    go_wp2_with fail
    refine ⟨.tuple #[.agg #[.slice none 0 0, .slice none 0 0], .int .i64 200, .int .i64 3], by simp [results, Try.results5, go_sem], ?_, rfl⟩
    (repeat (first | exact Below.refl _ _ | assumption | refine Below.drew ?_ | refine Below.alloc ?_ (by first | exact Nat.le_refl _ | (simp; done) | (simp; omega) | omega) _ | refine Below.setCell ?_ (by first | exact Nat.le_refl _ | (simp; done) | (simp; omega) | omega) _))
  · have hres : Hid (Tr.rparse 600 l = (Tr.cons 600 16 600 [] l 0).bnd fun ps r p => if 63 < Tr.places (ndsL 0 ps) (ptsL 0 ps) then .no l.length 3 else .ok ps r p) := Lib.hid (if_neg h200)
    rw [hres.out]
    have ht : decide ((200 : Int) < l.length) = false := decide_eq_false (by omega)
    have HLL := Lib.hid hl
    have HCO := Lib.hid (Tr.cons_ok 600 16 600 [] l 0 (by decide) (by simp))
    clear hl h200
    go_enter_defers Try.func5, Try.ntmps5
    go_wp2_with fail
    obtain ⟨W0, hW0⟩ : ∃ W0, W0 = (((w.alloc (.cells #[.slice none 0 0, .slice none 0 0] 27)).alloc (.cells #[.int .i64 0] 3)).alloc (.cells #[.int .i64 0] 28)).alloc (.cells #[.string ⟨l.toArray⟩, .int .i64 0, .int .i64 0, .slice none 0 0, .slice none 0 0] 46) := ⟨_, rfl⟩
    rw [← hW0]
    have HB0 : Hid (Below w.heap.size w W0) := Lib.hid (by rw [hW0]; (repeat (first | exact Below.refl _ _ | assumption | refine Below.drew ?_ | refine Below.alloc ?_ (by first | exact Nat.le_refl _ | (simp; done) | (simp; omega) | omega) _ | refine Below.setCell ?_ (by first | exact Nat.le_refl _ | (simp; done) | (simp; omega) | omega) _)))
    have h3 : Res3 W0 w.heap.size (.slice none 0 0) (.slice none 0 0) 0 0 := by
      rw [hW0]
      exact ⟨blk_alloc (blk_alloc (blk_alloc (rblk_new_at _ _ _ rfl) _) _) _, blk_alloc (blk_alloc (rblk_new_at _ _ _ (by simp)) _) _, blk_alloc (rblk_new_at _ _ _ (by simp)) _⟩
    have hR0 : RS W0 (w.heap.size + 1 + 1 + 1) (w.heap.size + 1 + 1 + 1) l l 0 0 [] [] (.slice none 0 0) (.slice none 0 0) :=
      ⟨by rw [hW0]; exact rblk_new_at _ _ _ (by simp), own_nil _ _ _ _, own_nil _ _ _ _, Nat.le_refl _, rfl, by simp, HLL.out, by omega⟩
    have HR0 := Lib.hid hR0
    have H3 := Lib.hid h3
    clear h3 hR0 hW0
    have ha : Hid (w.heap.size + 1 + 1 + 1 = w.heap.size + 3) := Lib.hid rfl
    obtain ⟨a, hwa⟩ : ∃ a, w.heap.size = a := ⟨_, rfl⟩
    have HWA := Lib.hid hwa
    rw [hwa] at HR0 H3 HB0 ha ⊢
    clear hwa
    refine (constraint_any (f0 := 600) (by have := HLL.out; omega) HR0.out).mono ?_
    rintro e w2 hO
    cases hc : Tr.cons 600 16 600 [] l 0 with
    | no q x =>
      rw [hc] at hO
      obtain ⟨rfl, B2⟩ := hO
      have h3 : Res3 w2 a (.slice none 0 0) (.slice none 0 0) 0 0 := ⟨(B2.block a (by omega)).trans H3.out.1, (B2.block (a + 1) (by omega)).trans H3.out.2.1, (B2.block (a + 2) (by omega)).trans H3.out.2.2⟩
      go_wp2_with fail
      refine leaves_cons (f := 11) (args := #[.pointer (some ⟨a, 0, none⟩), .pointer (some ⟨a + 1, 0, none⟩), .pointer (some ⟨a + 1 + 1, 0, none⟩)]) (by simp) (by simp [go_sem]) ?_
      refine (rx_catch a q x _ _ _ 0 0 h3).mono ?_
      rintro e u' w3 ⟨rfl, rfl, ⟨r1, r2, r3⟩, hB3⟩
      have hset : settle (.panicking [{ v := .iface 43 (.agg #[.int .i64 q, .int .i64 x]), recovered := true }]) = .returning := by simp [settle]
      show Leaves _ _ _ _ [] (settle _) _
      rw [hset, hc]
      have c0 := blk_cell r1 0
      have c1 := blk_cell r1 1
      have c2 := blk_cell r2 0
      have c3 := blk_cell r3 0
      simp at c0 c1 c2 c3
      refine ⟨.tuple #[.agg #[.slice none 0 0, .slice none 0 0], .int .i64 q, .int .i64 x], by simp [results, Try.results5, go_sem, c0, c1, c2, c3], ?_, rfl⟩
      rw [HWA.out]
      exact (HB0.out.trans (B2.mono (by omega))).trans hB3
    | ok L r1' p1 =>
      rw [hc] at hO HCO
      obtain ⟨rfl, ⟨vN, vP, hR2⟩, B2, hs2⟩ := hO
      obtain ⟨A1, c1, rfl⟩ := own_slice hR2.rN
      obtain ⟨A2, c2, rfl⟩ := own_slice hR2.rP
      have HR2 := Lib.hid hR2
      have HB2 := Lib.hid B2
      have HS2 := Lib.hid hs2
      obtain ⟨d0, d1, d2, d3, d4⟩ := hR2.cells
      clear hR2 B2 hs2
      go_wp2_with fail
      have HTA := Lib.hid (tree_read HCO.out.1 (by have := HS2.out; have := HLL.out; omega) HCO.out.2.2 HR2.out.rN HR2.out.rP)
      refine (places_any _ _ HTA.out).mono ?_
      rintro e w3 ⟨rfl, B3⟩
      by_cases h63 : 63 < Tr.places (ndsL 0 L) (ptsL 0 L)
      · have ht2 : decide ((63 : Int) < (Tr.places (ndsL 0 L) (ptsL 0 L) : Int)) = true := decide_eq_true (by omega)
        have H63 := Lib.hid h63
        have HB3 := Lib.hid B3
        clear h63 B3
        go_wp2_with fail
        refine (fails_any l.length 3).mono ?_
        rintro e w4 ⟨rfl, B4⟩
        have HB4 : Hid (Below (a + 3) W0 w4) := Lib.hid ((HB2.out.trans (HB3.out.mono HR2.out.lt)).trans (B4.mono (Nat.le_trans HR2.out.lt HB3.out.size)))
        have h3 : Res3 w4 a (.slice none 0 0) (.slice none 0 0) 0 0 := ⟨(HB4.out.block a (by omega)).trans H3.out.1, (HB4.out.block (a + 1) (by omega)).trans H3.out.2.1, (HB4.out.block (a + 2) (by omega)).trans H3.out.2.2⟩
        go_wp2_with fail
        refine leaves_cons (f := 11) (args := #[.pointer (some ⟨a, 0, none⟩), .pointer (some ⟨a + 1, 0, none⟩), .pointer (some ⟨a + 1 + 1, 0, none⟩)]) (by simp) (by simp [go_sem]) ?_
        refine (rx_catch a l.length 3 _ _ _ 0 0 h3).mono ?_
        rintro e u' w5 ⟨rfl, rfl, ⟨r1, r2, r3⟩, hB5⟩
        have hset : settle (.panicking [{ v := .iface 43 (.agg #[.int .i64 l.length, .int .i64 3]), recovered := true }]) = .returning := by simp [settle]
        show Leaves _ _ _ _ [] (settle _) _
        rw [hset, hc]
        have c0 := blk_cell r1 0
        have c1 := blk_cell r1 1
        have c2 := blk_cell r2 0
        have c3 := blk_cell r3 0
        simp at c0 c1 c2 c3
        rw [show ((R.ok L r1' p1 : R (List (Bool × T))).bnd fun ps r p => if 63 < Tr.places (ndsL 0 ps) (ptsL 0 ps) then R.no l.length 3 else R.ok ps r p) = .no l.length 3 from if_pos H63.out]
        refine ⟨.tuple #[.agg #[.slice none 0 0, .slice none 0 0], .int .i64 l.length, .int .i64 3], by simp [results, Try.results5, go_sem, c0, c1, c2, c3], ?_, rfl⟩
        rw [HWA.out]
        exact (HB0.out.trans (HB4.out.mono (by omega))).trans hB5
      · have ht2 : decide ((63 : Int) < (Tr.places (ndsL 0 L) (ptsL 0 L) : Int)) = false := decide_eq_false (by omega)
        have H63 := Lib.hid h63
        have HR3 := Lib.hid (HR2.out.below B3)
        have HB3 := Lib.hid (HB2.out.trans (B3.mono HR2.out.lt))
        clear h63 B3 d0 d1 d2 d3 d4
        have hA := (HB3.out.block a (by omega)).trans H3.out.1
        have hB := (HB3.out.block (a + 1) (by omega)).trans H3.out.2.1
        have hC := (HB3.out.block (a + 2) (by omega)).trans H3.out.2.2
        have HA := Lib.hid hA
        have HB := Lib.hid hB
        have HC := Lib.hid hC
        have a0 := blk_cell hA 0
        have a1 := blk_cell hA 1
        have b0 := blk_cell hB 0
        have k0 := blk_cell hC 0
        simp at a0 a1 b0 k0
        have fa0 := blk_frozen hA 0
        have fa1 := blk_frozen hA 1
        have fb0 := blk_frozen hB 0
        have fc0 := blk_frozen hC 0
        obtain ⟨d0, d1, d2, d3, d4⟩ := HR3.out.cells
        clear hA hB hC
        go_wp2_with fail
        refine leaves_cons (f := 11) (args := #[.pointer (some ⟨a, 0, none⟩), .pointer (some ⟨a + 1, 0, none⟩), .pointer (some ⟨a + 1 + 1, 0, none⟩)]) (by simp) (by simp [go_sem]) ?_
        refine (rx_idle _ _ _ _).mono ?_
        rintro e u' w5 ⟨rfl, rfl, rfl⟩
        have nA := own_ne HR3.out.rN HA.out (by decide)
        have nB := own_ne HR3.out.rN HB.out (by decide)
        have nC := own_ne HR3.out.rN HC.out (by decide)
        have mA := own_ne HR3.out.rP HA.out (by decide)
        have mB := own_ne HR3.out.rP HB.out (by decide)
        have mC := own_ne HR3.out.rP HC.out (by decide)
        have rN := own_setCell (own_setCell (own_setCell (own_setCell HR3.out.rN (p := ⟨a, 0, none⟩) nA (.slice A1 (ndsL 0 L).length c1)) (p := ⟨a, 1, none⟩) nA (.slice A2 (ptsL 0 L).length c2)) (p := ⟨a + 1, 0, none⟩) nB (.int .i64 0)) (p := ⟨a + 1 + 1, 0, none⟩) nC (.int .i64 0)
        have rP := own_setCell (own_setCell (own_setCell (own_setCell HR3.out.rP (p := ⟨a, 0, none⟩) mA (.slice A1 (ndsL 0 L).length c1)) (p := ⟨a, 1, none⟩) mA (.slice A2 (ptsL 0 L).length c2)) (p := ⟨a + 1, 0, none⟩) mB (.int .i64 0)) (p := ⟨a + 1 + 1, 0, none⟩) mC (.int .i64 0)
        have r1 := blk_far (blk_far (blk_put (blk_put HA.out 0 (.slice A1 (ndsL 0 L).length c1) rfl) 1 (.slice A2 (ptsL 0 L).length c2) rfl) (p := ⟨a + 1, 0, none⟩) (show a ≠ a + 1 by omega) (.int .i64 0)) (p := ⟨a + 1 + 1, 0, none⟩) (show a ≠ a + 1 + 1 by omega) (.int .i64 0)
        have r2 := blk_far (blk_put (blk_far (blk_far HB.out (p := ⟨a, 0, none⟩) (show a + 1 ≠ a by omega) (.slice A1 (ndsL 0 L).length c1)) (p := ⟨a, 1, none⟩) (show a + 1 ≠ a by omega) (.slice A2 (ptsL 0 L).length c2)) 0 (.int .i64 0) rfl) (p := ⟨a + 1 + 1, 0, none⟩) (show a + 1 ≠ a + 1 + 1 by omega) (.int .i64 0)
        have r3 := blk_put (blk_far (blk_far (blk_far HC.out (p := ⟨a, 0, none⟩) (show a + 2 ≠ a by omega) (.slice A1 (ndsL 0 L).length c1)) (p := ⟨a, 1, none⟩) (show a + 2 ≠ a by omega) (.slice A2 (ptsL 0 L).length c2)) (p := ⟨a + 1, 0, none⟩) (show a + 2 ≠ a + 1 by omega) (.int .i64 0)) 0 (.int .i64 0) rfl
        have hZB : Below a w ((((w3.setCell ⟨a, 0, none⟩ (.slice A1 (ndsL 0 L).length c1)).setCell ⟨a, 1, none⟩ (.slice A2 (ptsL 0 L).length c2)).setCell ⟨a + 1, 0, none⟩ (.int .i64 0)).setCell ⟨a + 1 + 1, 0, none⟩ (.int .i64 0)) :=
          ((((HB0.out.trans (HB3.out.mono (by omega))).setCell (p := ⟨a, 0, none⟩) (Nat.le_refl a) _).setCell (p := ⟨a, 1, none⟩) (Nat.le_refl a) _).setCell (p := ⟨a + 1, 0, none⟩) (show a ≤ a + 1 by omega) _).setCell (p := ⟨a + 1 + 1, 0, none⟩) (show a ≤ a + 1 + 1 by omega) _
        clear a0 a1 b0 k0 fa0 fa1 fb0 fc0 d0 d1 d2 d3 d4
        rw [hc, show ((R.ok L r1' p1 : R (List (Bool × T))).bnd fun ps r p => if 63 < Tr.places (ndsL 0 ps) (ptsL 0 ps) then R.no l.length 3 else R.ok ps r p) = .ok L r1' p1 from if_neg H63.out]
        show Leaves _ _ _ _ [] (settle .returning) ((((w3.setCell ⟨a, 0, none⟩ (.slice A1 (ndsL 0 L).length c1)).setCell ⟨a, 1, none⟩ (.slice A2 (ptsL 0 L).length c2)).setCell ⟨a + 1, 0, none⟩ (.int .i64 0)).setCell ⟨a + 1 + 1, 0, none⟩ (.int .i64 0))
        generalize ((((w3.setCell ⟨a, 0, none⟩ (.slice A1 (ndsL 0 L).length c1)).setCell ⟨a, 1, none⟩ (.slice A2 (ptsL 0 L).length c2)).setCell ⟨a + 1, 0, none⟩ (.int .i64 0)).setCell ⟨a + 1 + 1, 0, none⟩ (.int .i64 0)) = Z at *
        have b0 := blk_cell r1 0
        have b1 := blk_cell r1 1
        have b2 := blk_cell r2 0
        have b3 := blk_cell r3 0
        simp at b0 b1 b2 b3
        refine ⟨.tuple #[.agg #[.slice A1 (ndsL 0 L).length c1, .slice A2 (ptsL 0 L).length c2], .int .i64 0, .int .i64 0], by simp [results, Try.results5, go_sem, b0, b1, b2, b3], ?_, A1, A2, c1, c2, rfl, ?_⟩
        · rw [HWA.out]; exact hZB
        · exact ⟨tree_read HCO.out.1 (by have := HS2.out; have := HLL.out; omega) HCO.out.2.2 rN rP, by have := HS2.out; have := of_decide_eq_false ht; omega⟩
end Go.Proofs.Ytebkaajnnjfhjaa
