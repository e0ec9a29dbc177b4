/-
  Law 06's TreeKnown: walked.
-/
import Derived.Test.YtebkaajnnjfhjaaDoorKn
namespace Go.Proofs.YtebkaajnnjfhjaaDoor
set_option linter.unusedVariables false
set_option linter.unusedSimpArgs false
open Go.RowKit Go.Proofs.YtebkaajnnjfhjaaDoorW.PrintWords
open Tr (Nd Pt)

set_option maxRecDepth 100000 in
set_option maxHeartbeats 12800000 in
theorem known6_any (w : World) (hL : Laid w) : Calls Tryd.prog 3 #[] w fun e w' => e = .returned (.bool true) ∧ Below w.heap.size w w' := by
  have HL := Lib.hid hL
  clear hL
  go_enter Tryd.func3, Tryd.ntmps3
  go_wp2_with fail
  refine (of_a _ _ (by simp)).mono ?_
  rintro e w1 ⟨rfl, B1⟩
  go_wp2_with fail
  obtain ⟨W3, hW3⟩ : ∃ W3, W3 = (((w1.alloc (.cells (ndc nA).toArray 27 (0, 0))).alloc (.cells ([nA].flatMap ndc).toArray 27 (0, 0))).alloc (.cells (oneP.flatMap ptc).toArray 30 (0, 0))).alloc (.cells #[.slice (some ⟨w1.heap.size + 1, 0, none⟩) 1 1, .slice (some ⟨w1.heap.size + 1 + 1, 0, none⟩) 1 1] 33 (0, 0)) := ⟨_, rfl⟩
  have H1 : W3.heap[w1.heap.size]? = some (.cells (ndc nA).toArray 27 (0, 0)) := by rw [hW3]; exact blk_alloc (blk_alloc (blk_alloc (blk_new_at _ _ _ rfl) _) _) _
  have H2 : W3.heap[w1.heap.size + 1]? = some (.cells ([nA].flatMap ndc).toArray 27 (0, 0)) := by rw [hW3]; exact blk_alloc (blk_alloc (blk_new_at _ _ _ (by simp)) _) _
  have H3 : W3.heap[w1.heap.size + 1 + 1]? = some (.cells (oneP.flatMap ptc).toArray 30 (0, 0)) := by rw [hW3]; exact blk_alloc (blk_new_at _ _ _ (by simp)) _
  have H4 : W3.heap[w1.heap.size + 1 + 1 + 1]? = some (.cells #[.slice (some ⟨w1.heap.size + 1, 0, none⟩) 1 1, .slice (some ⟨w1.heap.size + 1 + 1, 0, none⟩) 1 1] 33 (0, 0)) := by rw [hW3]; exact blk_new_at _ _ _ (by simp)
  have HB3 : Below w.heap.size w W3 := by
    rw [hW3]
    have h1 := ((Below.refl w.heap.size w).alloc (Nat.le_refl _) (.cells #[.int .u8 97] 5)).trans (B1.mono (by simp))
    have h2 := h1.size
    (repeat (first | exact Below.refl _ _ | assumption | refine Below.drew ?_ | refine Below.alloc ?_ (by first | exact Nat.le_refl _ | (simp; done) | (simp; omega) | omega) _ | refine Below.setCell ?_ (by first | exact Nat.le_refl _ | (simp; done) | (simp; omega) | omega) _))
  change Code.wp _ _ _ _ ((((w1.alloc (.cells (ndc nA).toArray 27 (0, 0))).alloc (.cells ([nA].flatMap ndc).toArray 27 (0, 0))).alloc (.cells (oneP.flatMap ptc).toArray 30 (0, 0))).alloc (.cells #[.slice (some ⟨w1.heap.size + 1, 0, none⟩) 1 1, .slice (some ⟨w1.heap.size + 1 + 1, 0, none⟩) 1 1] 33 (0, 0)))
  rw [← hW3]
  have hs3 : W3.heap.size = w1.heap.size + 4 := by rw [hW3]; simp
  clear hW3 B1
  generalize w1.heap.size = b1 at *
  have C1 : ∀ z, Below W3.heap.size W3 z → z.cell? ⟨b1, 0, none⟩ = some (.int .u8 2) ∧ z.cell? ⟨b1, 1, none⟩ = some (.int .u64 0) ∧ z.cell? ⟨b1, 2, none⟩ = some (.int .u64 8589934592) ∧ z.cell? ⟨b1, 3, none⟩ = some (.int .u64 0) ∧ z.cell? ⟨b1, 4, none⟩ = some (.int .u64 0) ∧ z.cell? ⟨b1, 5, none⟩ = some (.int .i64 0) ∧ z.cell? ⟨b1, 6, none⟩ = some (.int .i64 0) ∧ z.cell? ⟨b1, 7, none⟩ = some (.int .i64 0) ∧ z.cell? ⟨b1, 8, none⟩ = some (.int .i64 0) := by
    intro z hz
    have k := blk_below H1 hz
    exact ⟨(blk_cell k 0).trans rfl, (blk_cell k 1).trans rfl, (blk_cell k 2).trans rfl, (blk_cell k 3).trans rfl, (blk_cell k 4).trans rfl, (blk_cell k 5).trans rfl, (blk_cell k 6).trans rfl, (blk_cell k 7).trans rfl, (blk_cell k 8).trans rfl⟩
  have HC1 := Lib.hid C1
  clear C1
  refine region_by 19 (by kernel_rfl) rfl (fun x => { tmps := #[.bool false, .pointer (some ⟨b1, 0, none⟩), .pointer (some ⟨b1 + 1 + 1 + 1, 0, none⟩), x 18, undef, undef, undef, .slice (some ⟨w.heap.size, 0, none⟩) 1 1, .agg #[.int .u64 0, .int .u64 8589934592, .int .u64 0, .int .u64 0], .agg #[.int .u8 2, .int .u64 0, .int .u64 8589934592, .int .u64 0, .int .u64 0, .int .i64 0, .int .i64 0, .int .i64 0, .int .i64 0], .agg #[.int .u8 2, .int .u64 0, .int .u64 8589934592, .int .u64 0, .int .u64 0, .int .i64 0, .int .i64 0, .int .i64 0, .int .i64 0], .slice (some ⟨b1 + 1, 0, none⟩) 1 1, .agg #[.int .i64 0, .bool false], .slice (some ⟨b1 + 1 + 1, 0, none⟩) 1 1, .agg #[.slice (some ⟨b1 + 1, 0, none⟩) 1 1, .slice (some ⟨b1 + 1 + 1, 0, none⟩) 1 1], x 0, x 1, x 2, x 3, x 4, x 5, x 6, x 7, x 8, x 9, x 10, x 11, x 12, x 13, x 14, x 15, x 16, x 17, undef, undef, undef, undef, undef, undef, undef, undef, undef, undef, undef, undef, undef, undef, undef, undef, undef, undef, undef, undef, undef, undef, undef, undef, undef, undef, undef, undef, undef, undef, undef, undef, undef, undef, undef, undef, undef, undef, undef, undef, undef, undef, undef, undef, undef, undef, undef, undef, undef, undef, undef, undef, undef, undef, undef, undef, undef, undef, undef, undef, undef, undef, undef, undef, undef, undef, undef, undef, undef, undef, undef, undef, undef, undef, undef, undef, undef, undef, undef, undef, undef, undef, undef, undef, undef, undef, undef, undef, undef, undef, undef, undef, undef, undef, undef, undef, undef, undef, undef, undef, undef, undef, undef, undef, undef, undef, undef, undef, undef, undef, undef], defers := [] }) (fun _ => undef) rfl (F3 W3.heap.size) F3.below (by kernel_rfl) (by kernel_rfl) ?_ ?_
  · refine StepsAre.cons ?_ (StepsAre.cons ?_ (StepsAre.cons ?_ (StepsAre.cons ?_ (StepsAre.cons ?_ (StepsAre.cons ?_ (StepsAre.cons ?_ (StepsAre.cons ?_ (StepsAre.cons ?_ (StepsAre.cons ?_ (StepsAre.cons ?_ (StepsAre.cons ?_ (StepsAre.cons ?_ (StepsAre.cons ?_ (StepsAre.cons ?_ (StepsAre.cons ?_ (StepsAre.cons ?_ (StepsAre.cons ?_ (StepsAre.cons ?_ StepsAre.nil))))))))))))))))))
    · refine StepIs.mk (fun x v => by kernel_rfl) (fun x z hb hdep => wpOp_step rfl (fun K hK => ?_))
      have HK := Lib.hid hK
      clear hK
      obtain ⟨c0, c1, c2, c3, c4, c5, c6, c7, c8⟩ := HC1.out z ((Below.drew (Below.refl _ _)).trans hb)
      clear hdep
      go_simp
      exact HK.out _ _ ⟨.agg #[.int .u8 2, .int .u64 0, .int .u64 8589934592, .int .u64 0, .int .u64 0, .int .i64 0, .int .i64 0, .int .i64 0, .int .i64 0], (by kernel_rfl), Below.refl _ _, rfl⟩
    · refine StepIs.mk (fun x v => by kernel_rfl) (fun x z hb hdep => wpOp_step rfl (fun K hK => ?_))
      have HK := Lib.hid hK
      clear hK
      clear hdep
      go_simp
      exact HK.out _ _ ⟨.slice (some ⟨z.heap.size, 0, none⟩) 1 1, (by kernel_rfl), (Below.refl _ _).alloc (Nat.le_refl _) _, ⟨z.heap.size, rfl, blk_new_at _ _ _ rfl, hb.size⟩⟩
    · refine StepIs.mk (fun x v => by kernel_rfl) (fun x z hb hdep => wpOp_step rfl (fun K hK => ?_))
      have HK := Lib.hid hK
      clear hK
      obtain ⟨g1, h1, n1, l1⟩ : SlF _ _ _ _ _ := hdep ⟨1, .data⟩ (by simp) rfl
      clear hdep
      go_simp
      go_at_call 8
      refine (of_97 z g1 n1).mono ?_
      rintro e z1 ⟨rfl, hz1⟩
      go_simp
      exact HK.out _ _ ⟨.agg #[.int .u64 0, .int .u64 8589934592, .int .u64 0, .int .u64 0], (by dsimp only; rw [h1]; kernel_rfl), hz1, rfl⟩
    · refine StepIs.mk (fun x v => by kernel_rfl) (fun x z hb hdep => wpOp_step rfl (fun K hK => ?_))
      have HK := Lib.hid hK
      clear hK
      have h2 : x 2 = .agg #[.int .u64 0, .int .u64 8589934592, .int .u64 0, .int .u64 0] := hdep ⟨2, .data⟩ (by simp) rfl
      clear hdep
      go_simp
      exact HK.out _ _ ⟨.agg #[.int .u8 2, .int .u64 0, .int .u64 8589934592, .int .u64 0, .int .u64 0, .int .i64 0, .int .i64 0, .int .i64 0, .int .i64 0], (by dsimp only; rw [h2]; kernel_rfl), Below.refl _ _, rfl⟩
    · refine StepIs.mk (fun x v => by kernel_rfl) (fun x z hb hdep => wpOp_step rfl (fun K hK => ?_))
      have HK := Lib.hid hK
      clear hK
      clear hdep
      go_simp
      exact HK.out _ _ ⟨.slice (some ⟨z.heap.size, 0, none⟩) 1 1, (by kernel_rfl), (Below.refl _ _).alloc (Nat.le_refl _) _, ⟨z.heap.size, rfl, blk_new_at _ _ _ rfl, hb.size⟩⟩
    · refine StepIs.mk (fun x v => by kernel_rfl) (fun x z hb hdep => wpOp_step rfl (fun K hK => ?_))
      have HK := Lib.hid hK
      clear hK
      obtain ⟨g4, h4, n4, l4⟩ : SlF _ _ _ _ _ := hdep ⟨4, .data⟩ (by simp) rfl
      clear hdep
      go_simp
      go_at_call 8
      refine (of_45 z g4 n4).mono ?_
      rintro e z1 ⟨rfl, hz1⟩
      go_simp
      exact HK.out _ _ ⟨.agg #[.int .u64 35184372088832, .int .u64 0, .int .u64 0, .int .u64 0], (by dsimp only; rw [h4]; kernel_rfl), hz1, rfl⟩
    · refine StepIs.mk (fun x v => by kernel_rfl) (fun x z hb hdep => wpOp_step rfl (fun K hK => ?_))
      have HK := Lib.hid hK
      clear hK
      have h5 : x 5 = .agg #[.int .u64 35184372088832, .int .u64 0, .int .u64 0, .int .u64 0] := hdep ⟨5, .data⟩ (by simp) rfl
      clear hdep
      go_simp
      exact HK.out _ _ ⟨.agg #[.int .u8 2, .int .u64 35184372088832, .int .u64 0, .int .u64 0, .int .u64 0, .int .i64 0, .int .i64 0, .int .i64 0, .int .i64 0], (by dsimp only; rw [h5]; kernel_rfl), Below.refl _ _, rfl⟩
    · refine StepIs.mk (fun x v => by kernel_rfl) (fun x z hb hdep => wpOp_step rfl (fun K hK => ?_))
      have HK := Lib.hid hK
      clear hK
      clear hdep
      go_simp
      exact HK.out _ _ ⟨.agg #[.int .u8 4, .int .u64 0, .int .u64 0, .int .u64 0, .int .u64 0, .int .i64 1, .int .i64 2, .int .i64 0, .int .i64 0], (by kernel_rfl), Below.refl _ _, rfl⟩
    · refine StepIs.mk (fun x v => by kernel_rfl) (fun x z hb hdep => wpOp_step rfl (fun K hK => ?_))
      have HK := Lib.hid hK
      clear hK
      clear hdep
      go_simp
      exact HK.out _ _ ⟨.agg #[.int .u8 5, .int .u64 0, .int .u64 0, .int .u64 0, .int .u64 0, .int .i64 3, .int .i64 0, .int .i64 2, .int .i64 3], (by kernel_rfl), Below.refl _ _, rfl⟩
    · refine StepIs.mk (fun x v => by kernel_rfl) (fun x z hb hdep => wpOp_step rfl (fun K hK => ?_))
      have HK := Lib.hid hK
      clear hK
      clear hdep
      go_simp
      exact HK.out _ _ ⟨.slice (some ⟨z.heap.size, 0, none⟩) 1 1, (by kernel_rfl), (Below.refl _ _).alloc (Nat.le_refl _) _, ⟨z.heap.size, rfl, blk_new_at _ _ _ rfl, hb.size⟩⟩
    · refine StepIs.mk (fun x v => by kernel_rfl) (fun x z hb hdep => wpOp_step rfl (fun K hK => ?_))
      have HK := Lib.hid hK
      clear hK
      obtain ⟨g9, h9, n9, l9⟩ : SlF _ _ _ _ _ := hdep ⟨9, .data⟩ (by simp) rfl
      clear hdep
      go_simp
      go_at_call 8
      refine (of_91 z g9 n9).mono ?_
      rintro e z1 ⟨rfl, hz1⟩
      go_simp
      exact HK.out _ _ ⟨.agg #[.int .u64 0, .int .u64 134217728, .int .u64 0, .int .u64 0], (by dsimp only; rw [h9]; kernel_rfl), hz1, rfl⟩
    · refine StepIs.mk (fun x v => by kernel_rfl) (fun x z hb hdep => wpOp_step rfl (fun K hK => ?_))
      have HK := Lib.hid hK
      clear hK
      have h10 : x 10 = .agg #[.int .u64 0, .int .u64 134217728, .int .u64 0, .int .u64 0] := hdep ⟨10, .data⟩ (by simp) rfl
      clear hdep
      go_simp
      exact HK.out _ _ ⟨.agg #[.int .u8 2, .int .u64 0, .int .u64 134217728, .int .u64 0, .int .u64 0, .int .i64 0, .int .i64 0, .int .i64 0, .int .i64 0], (by dsimp only; rw [h10]; kernel_rfl), Below.refl _ _, rfl⟩
    · refine StepIs.mk (fun x v => by kernel_rfl) (fun x z hb hdep => wpOp_step rfl (fun K hK => ?_))
      have HK := Lib.hid hK
      clear hK
      clear hdep
      go_simp
      exact HK.out _ _ ⟨.agg #[.int .u8 3, .int .u64 0, .int .u64 0, .int .u64 0, .int .u64 0, .int .i64 4, .int .i64 5, .int .i64 0, .int .i64 0], (by kernel_rfl), Below.refl _ _, rfl⟩
    · refine StepIs.mk (fun x v => by kernel_rfl) (fun x z hb hdep => wpOp_step rfl (fun K hK => ?_))
      have HK := Lib.hid hK
      clear hK
      clear hdep
      go_simp
      exact HK.out _ _ ⟨.agg #[.int .u8 3, .int .u64 0, .int .u64 0, .int .u64 0, .int .u64 0, .int .i64 0, .int .i64 6, .int .i64 0, .int .i64 0], (by kernel_rfl), Below.refl _ _, rfl⟩
    · refine StepIs.mk (fun x v => by kernel_rfl) (fun x z hb hdep => wpOp_step rfl (fun K hK => ?_))
      have HK := Lib.hid hK
      clear hK
      have h0 : x 0 = .agg #[.int .u8 2, .int .u64 0, .int .u64 8589934592, .int .u64 0, .int .u64 0, .int .i64 0, .int .i64 0, .int .i64 0, .int .i64 0] := hdep ⟨0, .data⟩ (by simp) rfl
      have h3 : x 3 = .agg #[.int .u8 2, .int .u64 0, .int .u64 8589934592, .int .u64 0, .int .u64 0, .int .i64 0, .int .i64 0, .int .i64 0, .int .i64 0] := hdep ⟨3, .data⟩ (by simp) rfl
      have h6 : x 6 = .agg #[.int .u8 2, .int .u64 35184372088832, .int .u64 0, .int .u64 0, .int .u64 0, .int .i64 0, .int .i64 0, .int .i64 0, .int .i64 0] := hdep ⟨6, .data⟩ (by simp) rfl
      have h7 : x 7 = .agg #[.int .u8 4, .int .u64 0, .int .u64 0, .int .u64 0, .int .u64 0, .int .i64 1, .int .i64 2, .int .i64 0, .int .i64 0] := hdep ⟨7, .data⟩ (by simp) rfl
      have h8 : x 8 = .agg #[.int .u8 5, .int .u64 0, .int .u64 0, .int .u64 0, .int .u64 0, .int .i64 3, .int .i64 0, .int .i64 2, .int .i64 3] := hdep ⟨8, .data⟩ (by simp) rfl
      have h11 : x 11 = .agg #[.int .u8 2, .int .u64 0, .int .u64 134217728, .int .u64 0, .int .u64 0, .int .i64 0, .int .i64 0, .int .i64 0, .int .i64 0] := hdep ⟨11, .data⟩ (by simp) rfl
      have h12 : x 12 = .agg #[.int .u8 3, .int .u64 0, .int .u64 0, .int .u64 0, .int .u64 0, .int .i64 4, .int .i64 5, .int .i64 0, .int .i64 0] := hdep ⟨12, .data⟩ (by simp) rfl
      have h13 : x 13 = .agg #[.int .u8 3, .int .u64 0, .int .u64 0, .int .u64 0, .int .u64 0, .int .i64 0, .int .i64 6, .int .i64 0, .int .i64 0] := hdep ⟨13, .data⟩ (by simp) rfl
      clear hdep
      go_simp
      exact HK.out _ _ ⟨.slice (some ⟨z.heap.size, 0, none⟩) 8 8, (by dsimp only; rw [h0, h3, h6, h7, h8, h11, h12, h13]; kernel_rfl), (Below.refl _ _).alloc (Nat.le_refl _) _, ⟨z.heap.size, rfl, blk_new_at _ _ _ rfl, hb.size⟩⟩
    · refine StepIs.mk (fun x v => by kernel_rfl) (fun x z hb hdep => wpOp_step rfl (fun K hK => ?_))
      have HK := Lib.hid hK
      clear hK
      clear hdep
      go_simp
      exact HK.out _ _ ⟨.agg #[.int .i64 7, .bool false], (by kernel_rfl), Below.refl _ _, rfl⟩
    · refine StepIs.mk (fun x v => by kernel_rfl) (fun x z hb hdep => wpOp_step rfl (fun K hK => ?_))
      have HK := Lib.hid hK
      clear hK
      have h15 : x 15 = .agg #[.int .i64 7, .bool false] := hdep ⟨15, .data⟩ (by simp) rfl
      clear hdep
      go_simp
      exact HK.out _ _ ⟨.slice (some ⟨z.heap.size, 0, none⟩) 1 1, (by dsimp only; rw [h15]; kernel_rfl), (Below.refl _ _).alloc (Nat.le_refl _) _, ⟨z.heap.size, rfl, blk_new_at _ _ _ rfl, hb.size⟩⟩
    · refine StepIs.mk (fun x v => by kernel_rfl) (fun x z hb hdep => wpOp_step rfl (fun K hK => ?_))
      have HK := Lib.hid hK
      clear hK
      obtain ⟨g14, h14, n14, l14⟩ : SlF _ _ _ _ _ := hdep ⟨14, .data⟩ (by simp) rfl
      obtain ⟨g16, h16, n16, l16⟩ : SlF _ _ _ _ _ := hdep ⟨16, .data⟩ (by simp) rfl
      clear hdep
      go_simp
      exact HK.out _ _ ⟨.agg #[.slice (some ⟨g14, 0, none⟩) 8 8, .slice (some ⟨g16, 0, none⟩) 1 1], (by dsimp only; rw [h14, h16]; kernel_rfl), Below.refl _ _, ⟨g14, g16, rfl, n14, n16, l14, l16⟩⟩
    · refine StepIs.mk (fun x v => by kernel_rfl) (fun x z hb hdep => wpOp_step rfl (fun K hK => ?_))
      have HK := Lib.hid hK
      clear hK
      clear hdep
      go_simp
      exact HK.out _ _ ⟨.pointer (some ⟨z.heap.size, 0, none⟩), (by kernel_rfl), (Below.refl _ _).alloc (Nat.le_refl _) _, ⟨z.heap.size, rfl, blk_new_at _ _ _ rfl, hb.size⟩⟩
  · intro x z hb hF
    refine wpOp_step rfl (fun K hK => ?_)
    have HK := Lib.hid hK
    clear hK
    obtain ⟨g, g1, h17, n17, p17, l17, m17⟩ : TrF _ _ _ := hF 17 (by decide)
    obtain ⟨ga, h18, n18, l18⟩ : ∃ g, x 18 = .pointer (some ⟨g, 0, none⟩) ∧ z.heap[g]? = some (.cells #[.slice none 0 0, .slice none 0 0] 33 (0, 0)) ∧ W3.heap.size ≤ g := hF 18 (by decide)
    have k0 := blk_cell n18 0
    have k1 := blk_cell n18 1
    have f0 := blk_frozen n18 0
    have f1 := blk_frozen n18 1
    have hlt := blk_lt n18
    simp at k0 k1
    go_simp
    refine HK.out _ _ ?_
    clear HK hF h17 h18 k0 k1 f0 f1
    have ne1 : g ≠ ga := blk_ne n17 n18 (by decide)
    have ne2 : g1 ≠ ga := blk_ne p17 n18 (by decide)
    obtain ⟨W4, hW4⟩ : ∃ W4, W4 = (z.setCell ⟨ga, 0, none⟩ (.slice (some ⟨g, 0, none⟩) 8 8)).setCell ⟨ga, 1, none⟩ (.slice (some ⟨g1, 0, none⟩) 1 1) := ⟨_, rfl⟩
    have HB4 : Below W3.heap.size W3 W4 := by
      rw [hW4]
      have h1 : Below W3.heap.size W3 z := (Below.drew (Below.refl _ _)).trans hb
      exact (h1.setCell (p := ⟨ga, 0, none⟩) l18 _).setCell (p := ⟨ga, 1, none⟩) l18 _
    have G1 : W4.heap[ga]? = some (.cells #[.slice (some ⟨g, 0, none⟩) 8 8, .slice (some ⟨g1, 0, none⟩) 1 1] 33 (0, 0)) := by rw [hW4]; exact blk_put (blk_put n18 0 _ rfl) 1 _ rfl
    have G2 : W4.heap[g]? = some (.cells (longN.flatMap ndc).toArray 27 (0, 0)) := by rw [hW4]; exact blk_far (blk_far n17 (p := ⟨ga, 0, none⟩) ne1 _) (p := ⟨ga, 1, none⟩) ne1 _
    have G3 : W4.heap[g1]? = some (.cells (longP.flatMap ptc).toArray 30 (0, 0)) := by rw [hW4]; exact blk_far (blk_far p17 (p := ⟨ga, 0, none⟩) ne2 _) (p := ⟨ga, 1, none⟩) ne2 _
    rw [← hW4]
    clear hW4 hb n17 p17 n18 l18 hlt ne1 ne2 l17 m17
    go_wp2_with fail
    refine (of_6 _ _ rfl).mono ?_
    rintro e W5 ⟨rfl, B5⟩
    have HB5 : Below W3.heap.size W3 W5 := (HB4.alloc HB4.size _).trans (B5.mono (HB4.alloc HB4.size _).size)
    have Q1 := blk_below (blk_alloc G1 _) B5
    have Q2 := blk_below (blk_alloc G2 _) B5
    have Q3 := blk_below (blk_alloc G3 _) B5
    clear B5 HB4 G1 G2 G3
    have T1 := fun o o' o'' => blk_alloc (blk_alloc (blk_alloc (blk_below H4 HB5) o) o') o''
    have T2 : ∀ o o' o'', (((W5.alloc o).alloc o').alloc o'').cell? ⟨b1 + 1 + 1 + 1, 0, none⟩ = some (.slice (some ⟨b1 + 1, 0, none⟩) 1 1) := fun o o' o'' => (blk_cell (T1 o o' o'') 0).trans rfl
    have T3 : ∀ o o' o'', (((W5.alloc o).alloc o').alloc o'').cell? ⟨b1 + 1 + 1 + 1, 1, none⟩ = some (.slice (some ⟨b1 + 1 + 1, 0, none⟩) 1 1) := fun o o' o'' => (blk_cell (T1 o o' o'') 1).trans rfl
    clear T1
    go_wp2_with fail
    clear T2 T3
    obtain ⟨W6, hW6⟩ : ∃ W6, W6 = (((W5.alloc (.cells (setN.flatMap ndc).toArray 27 (0, 0))).alloc (.cells (oneP.flatMap ptc).toArray 30 (0, 0))).alloc (.cells #[.slice (some ⟨W5.heap.size, 0, none⟩) 1 1, .slice (some ⟨W5.heap.size + 1, 0, none⟩) 1 1] 33 (0, 0))) := ⟨_, rfl⟩
    have HB6 : Below W3.heap.size W3 W6 := by
      rw [hW6]
      have h2 := HB5.size
      (repeat (first | exact Below.refl _ _ | assumption | refine Below.drew ?_ | refine Below.alloc ?_ (by first | exact Nat.le_refl _ | (simp; done) | (simp; omega) | omega) _ | refine Below.setCell ?_ (by first | exact Nat.le_refl _ | (simp; done) | (simp; omega) | omega) _))
    have R1 : W6.heap[W5.heap.size]? = some (.cells (setN.flatMap ndc).toArray 27 (0, 0)) := by rw [hW6]; exact blk_alloc (blk_alloc (blk_new_at _ _ _ rfl) _) _
    have R2 : W6.heap[W5.heap.size + 1]? = some (.cells (oneP.flatMap ptc).toArray 30 (0, 0)) := by rw [hW6]; exact blk_alloc (blk_new_at _ _ _ (by simp)) _
    have R3 : W6.heap[W5.heap.size + 1 + 1]? = some (.cells #[.slice (some ⟨W5.heap.size, 0, none⟩) 1 1, .slice (some ⟨W5.heap.size + 1, 0, none⟩) 1 1] 33 (0, 0)) := by rw [hW6]; exact blk_new_at _ _ _ (by simp)
    replace Q1 : W6.heap[ga]? = some (.cells #[.slice (some ⟨g, 0, none⟩) 8 8, .slice (some ⟨g1, 0, none⟩) 1 1] 33 (0, 0)) := by rw [hW6]; exact blk_alloc (blk_alloc (blk_alloc Q1 _) _) _
    replace Q2 : W6.heap[g]? = some (.cells (longN.flatMap ndc).toArray 27 (0, 0)) := by rw [hW6]; exact blk_alloc (blk_alloc (blk_alloc Q2 _) _) _
    replace Q3 : W6.heap[g1]? = some (.cells (longP.flatMap ptc).toArray 30 (0, 0)) := by rw [hW6]; exact blk_alloc (blk_alloc (blk_alloc Q3 _) _) _
    change Calls _ _ _ (((W5.alloc (.cells (setN.flatMap ndc).toArray 27 (0, 0))).alloc (.cells (oneP.flatMap ptc).toArray 30 (0, 0))).alloc (.cells #[.slice (some ⟨W5.heap.size, 0, none⟩) 1 1, .slice (some ⟨W5.heap.size + 1, 0, none⟩) 1 1] 33 (0, 0))) _
    rw [← hW6]
    clear hW6 HB5
    generalize W5.heap.size = g5 at *
    have HC : Hid (∀ z, Below W6.heap.size W6 z → z.cell? ⟨b1, 0, none⟩ = some (.int .u8 2) ∧ z.cell? ⟨b1, 1, none⟩ = some (.int .u64 0) ∧ z.cell? ⟨b1, 2, none⟩ = some (.int .u64 8589934592) ∧ z.cell? ⟨b1, 3, none⟩ = some (.int .u64 0) ∧ z.cell? ⟨b1, 4, none⟩ = some (.int .u64 0) ∧ z.cell? ⟨b1, 5, none⟩ = some (.int .i64 0) ∧ z.cell? ⟨b1, 6, none⟩ = some (.int .i64 0) ∧ z.cell? ⟨b1, 7, none⟩ = some (.int .i64 0) ∧ z.cell? ⟨b1, 8, none⟩ = some (.int .i64 0) ∧ z.cell? ⟨b1 + 1 + 1 + 1, 0, none⟩ = some (.slice (some ⟨b1 + 1, 0, none⟩) 1 1) ∧ z.cell? ⟨b1 + 1 + 1 + 1, 1, none⟩ = some (.slice (some ⟨b1 + 1 + 1, 0, none⟩) 1 1) ∧ z.cell? ⟨ga, 0, none⟩ = some (.slice (some ⟨g, 0, none⟩) 8 8) ∧ z.cell? ⟨ga, 1, none⟩ = some (.slice (some ⟨g1, 0, none⟩) 1 1) ∧ z.cell? ⟨g5 + 1 + 1, 0, none⟩ = some (.slice (some ⟨g5, 0, none⟩) 1 1) ∧ z.cell? ⟨g5 + 1 + 1, 1, none⟩ = some (.slice (some ⟨g5 + 1, 0, none⟩) 1 1)) := by
      refine Lib.hid fun z hz => ?_
      have k := blk_below (blk_below H1 HB6) hz
      have k2 := blk_below (blk_below H4 HB6) hz
      have k3 := blk_below Q1 hz
      have k4 := blk_below R3 hz
      exact ⟨(blk_cell k 0).trans rfl, (blk_cell k 1).trans rfl, (blk_cell k 2).trans rfl, (blk_cell k 3).trans rfl, (blk_cell k 4).trans rfl, (blk_cell k 5).trans rfl, (blk_cell k 6).trans rfl, (blk_cell k 7).trans rfl, (blk_cell k 8).trans rfl, (blk_cell k2 0).trans rfl, (blk_cell k2 1).trans rfl, (blk_cell k3 0).trans rfl, (blk_cell k3 1).trans rfl, (blk_cell k4 0).trans rfl, (blk_cell k4 1).trans rfl⟩
    have HK : Hid (∀ z, Below W6.heap.size W6 z → Below w.heap.size w z ∧ Laid z ∧ TreeAt z (some ⟨b1 + 1, 0, none⟩) (some ⟨b1 + 1 + 1, 0, none⟩) [nA] oneP ∧ TreeAt z (some ⟨g, 0, none⟩) (some ⟨g1, 0, none⟩) longN longP ∧ TreeAt z (some ⟨g5, 0, none⟩) (some ⟨g5 + 1, 0, none⟩) setN oneP ∧ z.heap[b1]? = some (.cells (ndc nA).toArray 27 (0, 0))) := by
      refine Lib.hid fun z hz => ?_
      have hz3 : Below W3.heap.size W3 z := HB6.trans (hz.mono HB6.size)
      have hzw : Below w.heap.size w z := HB3.trans (hz3.mono HB3.size)
      exact ⟨hzw, HL.out.below hzw, tree_at (blk_below H2 hz3) (blk_below H3 hz3) ok_oneT (by decide) (by decide) (by decide), tree_at (blk_below Q2 hz) (blk_below Q3 hz) ok_long (by decide) (by decide) (by decide), tree_at (blk_below R1 hz) (blk_below R2 hz) ok_set (by decide) (by decide) (by decide), blk_below H1 hz3⟩
    clear H1 H2 H3 H4 HB3 HB6 Q1 Q2 Q3 R1 R2 R3 HC1 hs3
    refine (kprint 1 1 [97] (HK.out _ (Below.refl _ _)).2.2.1 (HK.out _ (Below.refl _ _)).2.1 rfl rfl pr_one).mono ?_
    rintro e y1 ⟨rfl, HB⟩
    have K1 := HC.out _ HB
    go_wp2_with fail
    clear K1
    refine (kplaces 1 1 1 (HK.out _ HB).2.2.1 rfl rfl pl_one).mono ?_
    rintro e y2 ⟨rfl, B⟩
    replace HB := bthen HB B
    clear B
    have K1 := HC.out _ HB
    go_wp2_with fail
    clear K1
    refine (kdepth 1 1 1 (HK.out _ HB).2.2.1 rfl rfl dp_one).mono ?_
    rintro e y3 ⟨rfl, B⟩
    replace HB := bthen HB B
    clear B
    have K1 := HC.out _ HB
    go_wp2_with fail
    clear K1
    refine (kprint 8 1 [97, 40, 40, 97, 124, 45, 41, 123, 50, 44, 51, 125, 92, 91, 41] (HK.out _ HB).2.2.2.1 (HK.out _ HB).2.1 rfl rfl pr_long).mono ?_
    rintro e y4 ⟨rfl, B⟩
    replace HB := bthen HB B
    clear B
    have K1 := HC.out _ HB
    go_wp2_with fail
    clear K1
    refine (kplaces 8 1 8 (HK.out _ HB).2.2.2.1 rfl rfl pl_long).mono ?_
    rintro e y5 ⟨rfl, B⟩
    replace HB := bthen HB B
    clear B
    have K1 := HC.out _ HB
    go_wp2_with fail
    clear K1
    refine (kdepth 8 1 5 (HK.out _ HB).2.2.2.1 rfl rfl dp_long).mono ?_
    rintro e y6 ⟨rfl, B⟩
    replace HB := bthen HB B
    clear B
    have K1 := HC.out _ HB
    go_wp2_with fail
    clear K1
    refine (kprint 1 1 [91, 92, 120, 48, 48, 92, 93, 97, 45, 99, 122, 93] (HK.out _ HB).2.2.2.2.1 (HK.out _ HB).2.1 rfl rfl pr_set).mono ?_
    rintro e y7 ⟨rfl, B⟩
    replace HB := bthen HB B
    clear B
    have K1 := HC.out _ HB
    have KB := (HK.out _ HB).2.2.2.2.2
    have D2 : ∀ o0 o1, ((y7.alloc o0).alloc o1).cell? ⟨b1, 0, none⟩ = some (.int .u8 2) ∧ ((y7.alloc o0).alloc o1).cell? ⟨b1, 1, none⟩ = some (.int .u64 0) ∧ ((y7.alloc o0).alloc o1).cell? ⟨b1, 2, none⟩ = some (.int .u64 8589934592) ∧ ((y7.alloc o0).alloc o1).cell? ⟨b1, 3, none⟩ = some (.int .u64 0) ∧ ((y7.alloc o0).alloc o1).cell? ⟨b1, 4, none⟩ = some (.int .u64 0) ∧ ((y7.alloc o0).alloc o1).cell? ⟨b1, 5, none⟩ = some (.int .i64 0) ∧ ((y7.alloc o0).alloc o1).cell? ⟨b1, 6, none⟩ = some (.int .i64 0) ∧ ((y7.alloc o0).alloc o1).cell? ⟨b1, 7, none⟩ = some (.int .i64 0) ∧ ((y7.alloc o0).alloc o1).cell? ⟨b1, 8, none⟩ = some (.int .i64 0) := fun o0 o1 => have h := (blk_alloc (blk_alloc KB o0) o1); ⟨(blk_cell h 0).trans rfl, (blk_cell h 1).trans rfl, (blk_cell h 2).trans rfl, (blk_cell h 3).trans rfl, (blk_cell h 4).trans rfl, (blk_cell h 5).trans rfl, (blk_cell h 6).trans rfl, (blk_cell h 7).trans rfl, (blk_cell h 8).trans rfl⟩
    have D4 : ∀ o0 o1 o2 o3, ((((y7.alloc o0).alloc o1).alloc o2).alloc o3).cell? ⟨b1, 0, none⟩ = some (.int .u8 2) ∧ ((((y7.alloc o0).alloc o1).alloc o2).alloc o3).cell? ⟨b1, 1, none⟩ = some (.int .u64 0) ∧ ((((y7.alloc o0).alloc o1).alloc o2).alloc o3).cell? ⟨b1, 2, none⟩ = some (.int .u64 8589934592) ∧ ((((y7.alloc o0).alloc o1).alloc o2).alloc o3).cell? ⟨b1, 3, none⟩ = some (.int .u64 0) ∧ ((((y7.alloc o0).alloc o1).alloc o2).alloc o3).cell? ⟨b1, 4, none⟩ = some (.int .u64 0) ∧ ((((y7.alloc o0).alloc o1).alloc o2).alloc o3).cell? ⟨b1, 5, none⟩ = some (.int .i64 0) ∧ ((((y7.alloc o0).alloc o1).alloc o2).alloc o3).cell? ⟨b1, 6, none⟩ = some (.int .i64 0) ∧ ((((y7.alloc o0).alloc o1).alloc o2).alloc o3).cell? ⟨b1, 7, none⟩ = some (.int .i64 0) ∧ ((((y7.alloc o0).alloc o1).alloc o2).alloc o3).cell? ⟨b1, 8, none⟩ = some (.int .i64 0) := fun o0 o1 o2 o3 => have h := (blk_alloc (blk_alloc (blk_alloc (blk_alloc KB o0) o1) o2) o3); ⟨(blk_cell h 0).trans rfl, (blk_cell h 1).trans rfl, (blk_cell h 2).trans rfl, (blk_cell h 3).trans rfl, (blk_cell h 4).trans rfl, (blk_cell h 5).trans rfl, (blk_cell h 6).trans rfl, (blk_cell h 7).trans rfl, (blk_cell h 8).trans rfl⟩
    have D10 : ∀ o0 o1 o2 o3 o4 o5 o6 o7 o8 o9, ((((((((((y7.alloc o0).alloc o1).alloc o2).alloc o3).alloc o4).alloc o5).alloc o6).alloc o7).alloc o8).alloc o9).cell? ⟨b1, 0, none⟩ = some (.int .u8 2) ∧ ((((((((((y7.alloc o0).alloc o1).alloc o2).alloc o3).alloc o4).alloc o5).alloc o6).alloc o7).alloc o8).alloc o9).cell? ⟨b1, 1, none⟩ = some (.int .u64 0) ∧ ((((((((((y7.alloc o0).alloc o1).alloc o2).alloc o3).alloc o4).alloc o5).alloc o6).alloc o7).alloc o8).alloc o9).cell? ⟨b1, 2, none⟩ = some (.int .u64 8589934592) ∧ ((((((((((y7.alloc o0).alloc o1).alloc o2).alloc o3).alloc o4).alloc o5).alloc o6).alloc o7).alloc o8).alloc o9).cell? ⟨b1, 3, none⟩ = some (.int .u64 0) ∧ ((((((((((y7.alloc o0).alloc o1).alloc o2).alloc o3).alloc o4).alloc o5).alloc o6).alloc o7).alloc o8).alloc o9).cell? ⟨b1, 4, none⟩ = some (.int .u64 0) ∧ ((((((((((y7.alloc o0).alloc o1).alloc o2).alloc o3).alloc o4).alloc o5).alloc o6).alloc o7).alloc o8).alloc o9).cell? ⟨b1, 5, none⟩ = some (.int .i64 0) ∧ ((((((((((y7.alloc o0).alloc o1).alloc o2).alloc o3).alloc o4).alloc o5).alloc o6).alloc o7).alloc o8).alloc o9).cell? ⟨b1, 6, none⟩ = some (.int .i64 0) ∧ ((((((((((y7.alloc o0).alloc o1).alloc o2).alloc o3).alloc o4).alloc o5).alloc o6).alloc o7).alloc o8).alloc o9).cell? ⟨b1, 7, none⟩ = some (.int .i64 0) ∧ ((((((((((y7.alloc o0).alloc o1).alloc o2).alloc o3).alloc o4).alloc o5).alloc o6).alloc o7).alloc o8).alloc o9).cell? ⟨b1, 8, none⟩ = some (.int .i64 0) := fun o0 o1 o2 o3 o4 o5 o6 o7 o8 o9 => have h := (blk_alloc (blk_alloc (blk_alloc (blk_alloc (blk_alloc (blk_alloc (blk_alloc (blk_alloc (blk_alloc (blk_alloc KB o0) o1) o2) o3) o4) o5) o6) o7) o8) o9); ⟨(blk_cell h 0).trans rfl, (blk_cell h 1).trans rfl, (blk_cell h 2).trans rfl, (blk_cell h 3).trans rfl, (blk_cell h 4).trans rfl, (blk_cell h 5).trans rfl, (blk_cell h 6).trans rfl, (blk_cell h 7).trans rfl, (blk_cell h 8).trans rfl⟩
    have D12 : ∀ o0 o1 o2 o3 o4 o5 o6 o7 o8 o9 o10 o11, ((((((((((((y7.alloc o0).alloc o1).alloc o2).alloc o3).alloc o4).alloc o5).alloc o6).alloc o7).alloc o8).alloc o9).alloc o10).alloc o11).cell? ⟨b1, 0, none⟩ = some (.int .u8 2) ∧ ((((((((((((y7.alloc o0).alloc o1).alloc o2).alloc o3).alloc o4).alloc o5).alloc o6).alloc o7).alloc o8).alloc o9).alloc o10).alloc o11).cell? ⟨b1, 1, none⟩ = some (.int .u64 0) ∧ ((((((((((((y7.alloc o0).alloc o1).alloc o2).alloc o3).alloc o4).alloc o5).alloc o6).alloc o7).alloc o8).alloc o9).alloc o10).alloc o11).cell? ⟨b1, 2, none⟩ = some (.int .u64 8589934592) ∧ ((((((((((((y7.alloc o0).alloc o1).alloc o2).alloc o3).alloc o4).alloc o5).alloc o6).alloc o7).alloc o8).alloc o9).alloc o10).alloc o11).cell? ⟨b1, 3, none⟩ = some (.int .u64 0) ∧ ((((((((((((y7.alloc o0).alloc o1).alloc o2).alloc o3).alloc o4).alloc o5).alloc o6).alloc o7).alloc o8).alloc o9).alloc o10).alloc o11).cell? ⟨b1, 4, none⟩ = some (.int .u64 0) ∧ ((((((((((((y7.alloc o0).alloc o1).alloc o2).alloc o3).alloc o4).alloc o5).alloc o6).alloc o7).alloc o8).alloc o9).alloc o10).alloc o11).cell? ⟨b1, 5, none⟩ = some (.int .i64 0) ∧ ((((((((((((y7.alloc o0).alloc o1).alloc o2).alloc o3).alloc o4).alloc o5).alloc o6).alloc o7).alloc o8).alloc o9).alloc o10).alloc o11).cell? ⟨b1, 6, none⟩ = some (.int .i64 0) ∧ ((((((((((((y7.alloc o0).alloc o1).alloc o2).alloc o3).alloc o4).alloc o5).alloc o6).alloc o7).alloc o8).alloc o9).alloc o10).alloc o11).cell? ⟨b1, 7, none⟩ = some (.int .i64 0) ∧ ((((((((((((y7.alloc o0).alloc o1).alloc o2).alloc o3).alloc o4).alloc o5).alloc o6).alloc o7).alloc o8).alloc o9).alloc o10).alloc o11).cell? ⟨b1, 8, none⟩ = some (.int .i64 0) := fun o0 o1 o2 o3 o4 o5 o6 o7 o8 o9 o10 o11 => have h := (blk_alloc (blk_alloc (blk_alloc (blk_alloc (blk_alloc (blk_alloc (blk_alloc (blk_alloc (blk_alloc (blk_alloc (blk_alloc (blk_alloc KB o0) o1) o2) o3) o4) o5) o6) o7) o8) o9) o10) o11); ⟨(blk_cell h 0).trans rfl, (blk_cell h 1).trans rfl, (blk_cell h 2).trans rfl, (blk_cell h 3).trans rfl, (blk_cell h 4).trans rfl, (blk_cell h 5).trans rfl, (blk_cell h 6).trans rfl, (blk_cell h 7).trans rfl, (blk_cell h 8).trans rfl⟩
    clear KB
    go_wp2_with fail
    clear D2 D4 D10 D12 K1
    obtain ⟨W7, hW7⟩ : ∃ W7, W7 = (((((((((((((((((y7.alloc (.cells (([nA] : List Nd).flatMap ndc).toArray 27 (0, 0))).alloc (.cells ((oneP : List Pt).flatMap ptc).toArray 30 (0, 0))).alloc (.cells (([nA, nA] : List Nd).flatMap ndc).toArray 27 (0, 0))).alloc (.cells ((p1 : List Pt).flatMap ptc).toArray 30 (0, 0))).alloc (.cells (([nA] : List Nd).flatMap ndc).toArray 27 (0, 0))).alloc (.cells ((p00 : List Pt).flatMap ptc).toArray 30 (0, 0))).alloc (.cells (([n51] : List Nd).flatMap ndc).toArray 27 (0, 0))).alloc (.cells ((oneP : List Pt).flatMap ptc).toArray 30 (0, 0))).alloc (.cells (([n11] : List Nd).flatMap ndc).toArray 27 (0, 0))).alloc (.cells ((oneP : List Pt).flatMap ptc).toArray 30 (0, 0))).alloc (.cells (([nA, n52] : List Nd).flatMap ndc).toArray 27 (0, 0))).alloc (.cells ((p1 : List Pt).flatMap ptc).toArray 30 (0, 0))).alloc (.cells (([nA, n5t] : List Nd).flatMap ndc).toArray 27 (0, 0))).alloc (.cells ((p1 : List Pt).flatMap ptc).toArray 30 (0, 0))).alloc (.cells (([n60] : List Nd).flatMap ndc).toArray 27 (0, 0))).alloc (.cells ((oneP : List Pt).flatMap ptc).toArray 30 (0, 0))).alloc (.cells #[.slice none 0 0, .slice none 0 0, .slice (some ⟨y7.heap.size, 0, none⟩) 1 1, .slice none 0 0, .slice none 0 0, .slice (some ⟨y7.heap.size + 1, 0, none⟩) 1 1, .slice (some ⟨y7.heap.size + 1 + 1, 0, none⟩) 2 2, .slice (some ⟨y7.heap.size + 1 + 1 + 1, 0, none⟩) 1 1, .slice (some ⟨y7.heap.size + 1 + 1 + 1 + 1, 0, none⟩) 1 1, .slice (some ⟨y7.heap.size + 1 + 1 + 1 + 1 + 1, 0, none⟩) 2 2, .slice (some ⟨y7.heap.size + 1 + 1 + 1 + 1 + 1 + 1, 0, none⟩) 1 1, .slice (some ⟨y7.heap.size + 1 + 1 + 1 + 1 + 1 + 1 + 1, 0, none⟩) 1 1, .slice (some ⟨y7.heap.size + 1 + 1 + 1 + 1 + 1 + 1 + 1 + 1, 0, none⟩) 1 1, .slice (some ⟨y7.heap.size + 1 + 1 + 1 + 1 + 1 + 1 + 1 + 1 + 1, 0, none⟩) 1 1, .slice (some ⟨y7.heap.size + 1 + 1 + 1 + 1 + 1 + 1 + 1 + 1 + 1 + 1, 0, none⟩) 2 2, .slice (some ⟨y7.heap.size + 1 + 1 + 1 + 1 + 1 + 1 + 1 + 1 + 1 + 1 + 1, 0, none⟩) 1 1, .slice (some ⟨y7.heap.size + 1 + 1 + 1 + 1 + 1 + 1 + 1 + 1 + 1 + 1 + 1 + 1, 0, none⟩) 2 2, .slice (some ⟨y7.heap.size + 1 + 1 + 1 + 1 + 1 + 1 + 1 + 1 + 1 + 1 + 1 + 1 + 1, 0, none⟩) 1 1, .slice (some ⟨y7.heap.size + 1 + 1 + 1 + 1 + 1 + 1 + 1 + 1 + 1 + 1 + 1 + 1 + 1 + 1, 0, none⟩) 1 1, .slice (some ⟨y7.heap.size + 1 + 1 + 1 + 1 + 1 + 1 + 1 + 1 + 1 + 1 + 1 + 1 + 1 + 1 + 1, 0, none⟩) 1 1] 33 (0, 0))) := ⟨_, rfl⟩
    have HB7 : Below y7.heap.size y7 W7 := by
      rw [hW7]
      (repeat (first | exact Below.refl _ _ | assumption | refine Below.drew ?_ | refine Below.alloc ?_ (by first | exact Nat.le_refl _ | (simp; done) | (simp; omega) | omega) _ | refine Below.setCell ?_ (by first | exact Nat.le_refl _ | (simp; done) | (simp; omega) | omega) _))
    have N0 : W7.heap[y7.heap.size]? = some (.cells (([nA] : List Nd).flatMap ndc).toArray 27 (0, 0)) := by rw [hW7]; exact (blk_alloc (blk_alloc (blk_alloc (blk_alloc (blk_alloc (blk_alloc (blk_alloc (blk_alloc (blk_alloc (blk_alloc (blk_alloc (blk_alloc (blk_alloc (blk_alloc (blk_alloc (blk_alloc (blk_new_at _ _ _ rfl) _) _) _) _) _) _) _) _) _) _) _) _) _) _) _) _)
    have N1 : W7.heap[y7.heap.size + 1]? = some (.cells ((oneP : List Pt).flatMap ptc).toArray 30 (0, 0)) := by rw [hW7]; exact (blk_alloc (blk_alloc (blk_alloc (blk_alloc (blk_alloc (blk_alloc (blk_alloc (blk_alloc (blk_alloc (blk_alloc (blk_alloc (blk_alloc (blk_alloc (blk_alloc (blk_alloc (blk_new_at _ _ _ (by simp)) _) _) _) _) _) _) _) _) _) _) _) _) _) _) _)
    have N2 : W7.heap[y7.heap.size + 1 + 1]? = some (.cells (([nA, nA] : List Nd).flatMap ndc).toArray 27 (0, 0)) := by rw [hW7]; exact (blk_alloc (blk_alloc (blk_alloc (blk_alloc (blk_alloc (blk_alloc (blk_alloc (blk_alloc (blk_alloc (blk_alloc (blk_alloc (blk_alloc (blk_alloc (blk_alloc (blk_new_at _ _ _ (by simp)) _) _) _) _) _) _) _) _) _) _) _) _) _) _)
    have N3 : W7.heap[y7.heap.size + 1 + 1 + 1]? = some (.cells ((p1 : List Pt).flatMap ptc).toArray 30 (0, 0)) := by rw [hW7]; exact (blk_alloc (blk_alloc (blk_alloc (blk_alloc (blk_alloc (blk_alloc (blk_alloc (blk_alloc (blk_alloc (blk_alloc (blk_alloc (blk_alloc (blk_alloc (blk_new_at _ _ _ (by simp)) _) _) _) _) _) _) _) _) _) _) _) _) _)
    have N4 : W7.heap[y7.heap.size + 1 + 1 + 1 + 1]? = some (.cells (([nA] : List Nd).flatMap ndc).toArray 27 (0, 0)) := by rw [hW7]; exact (blk_alloc (blk_alloc (blk_alloc (blk_alloc (blk_alloc (blk_alloc (blk_alloc (blk_alloc (blk_alloc (blk_alloc (blk_alloc (blk_alloc (blk_new_at _ _ _ (by simp)) _) _) _) _) _) _) _) _) _) _) _) _)
    have N5 : W7.heap[y7.heap.size + 1 + 1 + 1 + 1 + 1]? = some (.cells ((p00 : List Pt).flatMap ptc).toArray 30 (0, 0)) := by rw [hW7]; exact (blk_alloc (blk_alloc (blk_alloc (blk_alloc (blk_alloc (blk_alloc (blk_alloc (blk_alloc (blk_alloc (blk_alloc (blk_alloc (blk_new_at _ _ _ (by simp)) _) _) _) _) _) _) _) _) _) _) _)
    have N6 : W7.heap[y7.heap.size + 1 + 1 + 1 + 1 + 1 + 1]? = some (.cells (([n51] : List Nd).flatMap ndc).toArray 27 (0, 0)) := by rw [hW7]; exact (blk_alloc (blk_alloc (blk_alloc (blk_alloc (blk_alloc (blk_alloc (blk_alloc (blk_alloc (blk_alloc (blk_alloc (blk_new_at _ _ _ (by simp)) _) _) _) _) _) _) _) _) _) _)
    have N7 : W7.heap[y7.heap.size + 1 + 1 + 1 + 1 + 1 + 1 + 1]? = some (.cells ((oneP : List Pt).flatMap ptc).toArray 30 (0, 0)) := by rw [hW7]; exact (blk_alloc (blk_alloc (blk_alloc (blk_alloc (blk_alloc (blk_alloc (blk_alloc (blk_alloc (blk_alloc (blk_new_at _ _ _ (by simp)) _) _) _) _) _) _) _) _) _)
    have N8 : W7.heap[y7.heap.size + 1 + 1 + 1 + 1 + 1 + 1 + 1 + 1]? = some (.cells (([n11] : List Nd).flatMap ndc).toArray 27 (0, 0)) := by rw [hW7]; exact (blk_alloc (blk_alloc (blk_alloc (blk_alloc (blk_alloc (blk_alloc (blk_alloc (blk_alloc (blk_new_at _ _ _ (by simp)) _) _) _) _) _) _) _) _)
    have N9 : W7.heap[y7.heap.size + 1 + 1 + 1 + 1 + 1 + 1 + 1 + 1 + 1]? = some (.cells ((oneP : List Pt).flatMap ptc).toArray 30 (0, 0)) := by rw [hW7]; exact (blk_alloc (blk_alloc (blk_alloc (blk_alloc (blk_alloc (blk_alloc (blk_alloc (blk_new_at _ _ _ (by simp)) _) _) _) _) _) _) _)
    have N10 : W7.heap[y7.heap.size + 1 + 1 + 1 + 1 + 1 + 1 + 1 + 1 + 1 + 1]? = some (.cells (([nA, n52] : List Nd).flatMap ndc).toArray 27 (0, 0)) := by rw [hW7]; exact (blk_alloc (blk_alloc (blk_alloc (blk_alloc (blk_alloc (blk_alloc (blk_new_at _ _ _ (by simp)) _) _) _) _) _) _)
    have N11 : W7.heap[y7.heap.size + 1 + 1 + 1 + 1 + 1 + 1 + 1 + 1 + 1 + 1 + 1]? = some (.cells ((p1 : List Pt).flatMap ptc).toArray 30 (0, 0)) := by rw [hW7]; exact (blk_alloc (blk_alloc (blk_alloc (blk_alloc (blk_alloc (blk_new_at _ _ _ (by simp)) _) _) _) _) _)
    have N12 : W7.heap[y7.heap.size + 1 + 1 + 1 + 1 + 1 + 1 + 1 + 1 + 1 + 1 + 1 + 1]? = some (.cells (([nA, n5t] : List Nd).flatMap ndc).toArray 27 (0, 0)) := by rw [hW7]; exact (blk_alloc (blk_alloc (blk_alloc (blk_alloc (blk_new_at _ _ _ (by simp)) _) _) _) _)
    have N13 : W7.heap[y7.heap.size + 1 + 1 + 1 + 1 + 1 + 1 + 1 + 1 + 1 + 1 + 1 + 1 + 1]? = some (.cells ((p1 : List Pt).flatMap ptc).toArray 30 (0, 0)) := by rw [hW7]; exact (blk_alloc (blk_alloc (blk_alloc (blk_new_at _ _ _ (by simp)) _) _) _)
    have N14 : W7.heap[y7.heap.size + 1 + 1 + 1 + 1 + 1 + 1 + 1 + 1 + 1 + 1 + 1 + 1 + 1 + 1]? = some (.cells (([n60] : List Nd).flatMap ndc).toArray 27 (0, 0)) := by rw [hW7]; exact (blk_alloc (blk_alloc (blk_new_at _ _ _ (by simp)) _) _)
    have N15 : W7.heap[y7.heap.size + 1 + 1 + 1 + 1 + 1 + 1 + 1 + 1 + 1 + 1 + 1 + 1 + 1 + 1 + 1]? = some (.cells ((oneP : List Pt).flatMap ptc).toArray 30 (0, 0)) := by rw [hW7]; exact (blk_alloc (blk_new_at _ _ _ (by simp)) _)
    have N16 : W7.heap[y7.heap.size + 1 + 1 + 1 + 1 + 1 + 1 + 1 + 1 + 1 + 1 + 1 + 1 + 1 + 1 + 1 + 1]? = some (.cells #[.slice none 0 0, .slice none 0 0, .slice (some ⟨y7.heap.size, 0, none⟩) 1 1, .slice none 0 0, .slice none 0 0, .slice (some ⟨y7.heap.size + 1, 0, none⟩) 1 1, .slice (some ⟨y7.heap.size + 1 + 1, 0, none⟩) 2 2, .slice (some ⟨y7.heap.size + 1 + 1 + 1, 0, none⟩) 1 1, .slice (some ⟨y7.heap.size + 1 + 1 + 1 + 1, 0, none⟩) 1 1, .slice (some ⟨y7.heap.size + 1 + 1 + 1 + 1 + 1, 0, none⟩) 2 2, .slice (some ⟨y7.heap.size + 1 + 1 + 1 + 1 + 1 + 1, 0, none⟩) 1 1, .slice (some ⟨y7.heap.size + 1 + 1 + 1 + 1 + 1 + 1 + 1, 0, none⟩) 1 1, .slice (some ⟨y7.heap.size + 1 + 1 + 1 + 1 + 1 + 1 + 1 + 1, 0, none⟩) 1 1, .slice (some ⟨y7.heap.size + 1 + 1 + 1 + 1 + 1 + 1 + 1 + 1 + 1, 0, none⟩) 1 1, .slice (some ⟨y7.heap.size + 1 + 1 + 1 + 1 + 1 + 1 + 1 + 1 + 1 + 1, 0, none⟩) 2 2, .slice (some ⟨y7.heap.size + 1 + 1 + 1 + 1 + 1 + 1 + 1 + 1 + 1 + 1 + 1, 0, none⟩) 1 1, .slice (some ⟨y7.heap.size + 1 + 1 + 1 + 1 + 1 + 1 + 1 + 1 + 1 + 1 + 1 + 1, 0, none⟩) 2 2, .slice (some ⟨y7.heap.size + 1 + 1 + 1 + 1 + 1 + 1 + 1 + 1 + 1 + 1 + 1 + 1 + 1, 0, none⟩) 1 1, .slice (some ⟨y7.heap.size + 1 + 1 + 1 + 1 + 1 + 1 + 1 + 1 + 1 + 1 + 1 + 1 + 1 + 1, 0, none⟩) 1 1, .slice (some ⟨y7.heap.size + 1 + 1 + 1 + 1 + 1 + 1 + 1 + 1 + 1 + 1 + 1 + 1 + 1 + 1 + 1, 0, none⟩) 1 1] 33 (0, 0)) := by rw [hW7]; exact (blk_new_at _ _ _ (by simp))
    change Code.wp _ _ _ _ (((((((((((((((((y7.alloc (.cells (([nA] : List Nd).flatMap ndc).toArray 27 (0, 0))).alloc (.cells ((oneP : List Pt).flatMap ptc).toArray 30 (0, 0))).alloc (.cells (([nA, nA] : List Nd).flatMap ndc).toArray 27 (0, 0))).alloc (.cells ((p1 : List Pt).flatMap ptc).toArray 30 (0, 0))).alloc (.cells (([nA] : List Nd).flatMap ndc).toArray 27 (0, 0))).alloc (.cells ((p00 : List Pt).flatMap ptc).toArray 30 (0, 0))).alloc (.cells (([n51] : List Nd).flatMap ndc).toArray 27 (0, 0))).alloc (.cells ((oneP : List Pt).flatMap ptc).toArray 30 (0, 0))).alloc (.cells (([n11] : List Nd).flatMap ndc).toArray 27 (0, 0))).alloc (.cells ((oneP : List Pt).flatMap ptc).toArray 30 (0, 0))).alloc (.cells (([nA, n52] : List Nd).flatMap ndc).toArray 27 (0, 0))).alloc (.cells ((p1 : List Pt).flatMap ptc).toArray 30 (0, 0))).alloc (.cells (([nA, n5t] : List Nd).flatMap ndc).toArray 27 (0, 0))).alloc (.cells ((p1 : List Pt).flatMap ptc).toArray 30 (0, 0))).alloc (.cells (([n60] : List Nd).flatMap ndc).toArray 27 (0, 0))).alloc (.cells ((oneP : List Pt).flatMap ptc).toArray 30 (0, 0))).alloc (.cells #[.slice none 0 0, .slice none 0 0, .slice (some ⟨y7.heap.size, 0, none⟩) 1 1, .slice none 0 0, .slice none 0 0, .slice (some ⟨y7.heap.size + 1, 0, none⟩) 1 1, .slice (some ⟨y7.heap.size + 1 + 1, 0, none⟩) 2 2, .slice (some ⟨y7.heap.size + 1 + 1 + 1, 0, none⟩) 1 1, .slice (some ⟨y7.heap.size + 1 + 1 + 1 + 1, 0, none⟩) 1 1, .slice (some ⟨y7.heap.size + 1 + 1 + 1 + 1 + 1, 0, none⟩) 2 2, .slice (some ⟨y7.heap.size + 1 + 1 + 1 + 1 + 1 + 1, 0, none⟩) 1 1, .slice (some ⟨y7.heap.size + 1 + 1 + 1 + 1 + 1 + 1 + 1, 0, none⟩) 1 1, .slice (some ⟨y7.heap.size + 1 + 1 + 1 + 1 + 1 + 1 + 1 + 1, 0, none⟩) 1 1, .slice (some ⟨y7.heap.size + 1 + 1 + 1 + 1 + 1 + 1 + 1 + 1 + 1, 0, none⟩) 1 1, .slice (some ⟨y7.heap.size + 1 + 1 + 1 + 1 + 1 + 1 + 1 + 1 + 1 + 1, 0, none⟩) 2 2, .slice (some ⟨y7.heap.size + 1 + 1 + 1 + 1 + 1 + 1 + 1 + 1 + 1 + 1 + 1, 0, none⟩) 1 1, .slice (some ⟨y7.heap.size + 1 + 1 + 1 + 1 + 1 + 1 + 1 + 1 + 1 + 1 + 1 + 1, 0, none⟩) 2 2, .slice (some ⟨y7.heap.size + 1 + 1 + 1 + 1 + 1 + 1 + 1 + 1 + 1 + 1 + 1 + 1 + 1, 0, none⟩) 1 1, .slice (some ⟨y7.heap.size + 1 + 1 + 1 + 1 + 1 + 1 + 1 + 1 + 1 + 1 + 1 + 1 + 1 + 1, 0, none⟩) 1 1, .slice (some ⟨y7.heap.size + 1 + 1 + 1 + 1 + 1 + 1 + 1 + 1 + 1 + 1 + 1 + 1 + 1 + 1 + 1, 0, none⟩) 1 1] 33 (0, 0)))
    rw [← hW7]
    clear hW7
    have HB := bthen HB HB7
    clear HB7
    generalize y7.heap.size = g7 at *
    obtain ⟨pa, hpa⟩ : ∃ pa : Addr, pa = ⟨g7 + 1 + 1 + 1 + 1 + 1 + 1 + 1 + 1 + 1 + 1 + 1 + 1 + 1 + 1 + 1 + 1, 0, none⟩ := ⟨_, rfl⟩
    rw [← hpa]
    have HX : Hid (∀ k, k < 10 → ∃ A A' ns ps, Tr.right ns ps = false ∧ ∀ z, Below W7.heap.size W7 z → z.cell? (pa.add (k * 2)) = some (.slice A ns.length ns.length) ∧ z.cell? ⟨(pa.add (k * 2)).block, (pa.add (k * 2)).off + 1, none⟩ = some (.slice A' ps.length ps.length) ∧ TreeAt z A A' ns ps) := by
      refine Lib.hid fun k hk => ?_
      rw [hpa, add_zero_at]
      obtain rfl | rfl | rfl | rfl | rfl | rfl | rfl | rfl | rfl | rfl : k = 0 ∨ k = 1 ∨ k = 2 ∨ k = 3 ∨ k = 4 ∨ k = 5 ∨ k = 6 ∨ k = 7 ∨ k = 8 ∨ k = 9 := by omega
      · exact ⟨none, none, [], [], by decide +kernel, fun z hz => ⟨(blk_cell (blk_below N16 hz) 0).trans rfl, (blk_cell (blk_below N16 hz) 1).trans rfl, NodesAt.nil _, PartsAt.nil _, fine_nil, by decide, by decide, by decide⟩⟩
      · exact ⟨some ⟨g7, 0, none⟩, none, [nA], [], by decide +kernel, fun z hz => ⟨(blk_cell (blk_below N16 hz) 2).trans rfl, (blk_cell (blk_below N16 hz) 3).trans rfl, NodesAt.blk (blk_below N0 hz), PartsAt.nil _, fine_cons fineA (fine_nil), by decide, by decide, by decide⟩⟩
      · exact ⟨none, some ⟨g7 + 1, 0, none⟩, [], oneP, by decide +kernel, fun z hz => ⟨(blk_cell (blk_below N16 hz) 4).trans rfl, (blk_cell (blk_below N16 hz) 5).trans rfl, NodesAt.nil _, PartsAt.blk (blk_below N1 hz), fine_nil, by decide, by decide, by decide⟩⟩
      · exact ⟨some ⟨g7 + 1 + 1, 0, none⟩, some ⟨g7 + 1 + 1 + 1, 0, none⟩, [nA, nA], p1, by decide +kernel, fun z hz => ⟨(blk_cell (blk_below N16 hz) 6).trans rfl, (blk_cell (blk_below N16 hz) 7).trans rfl, NodesAt.blk (blk_below N2 hz), PartsAt.blk (blk_below N3 hz), fine_cons fineA (fine_cons fineA (fine_nil)), by decide, by decide, by decide⟩⟩
      · exact ⟨some ⟨g7 + 1 + 1 + 1 + 1, 0, none⟩, some ⟨g7 + 1 + 1 + 1 + 1 + 1, 0, none⟩, [nA], p00, by decide +kernel, fun z hz => ⟨(blk_cell (blk_below N16 hz) 8).trans rfl, (blk_cell (blk_below N16 hz) 9).trans rfl, NodesAt.blk (blk_below N4 hz), PartsAt.blk (blk_below N5 hz), fine_cons fineA (fine_nil), by decide, by decide, by decide⟩⟩
      · exact ⟨some ⟨g7 + 1 + 1 + 1 + 1 + 1 + 1, 0, none⟩, some ⟨g7 + 1 + 1 + 1 + 1 + 1 + 1 + 1, 0, none⟩, [n51], oneP, by decide +kernel, fun z hz => ⟨(blk_cell (blk_below N16 hz) 10).trans rfl, (blk_cell (blk_below N16 hz) 11).trans rfl, NodesAt.blk (blk_below N6 hz), PartsAt.blk (blk_below N7 hz), fine_cons fine51 (fine_nil), by decide, by decide, by decide⟩⟩
      · exact ⟨some ⟨g7 + 1 + 1 + 1 + 1 + 1 + 1 + 1 + 1, 0, none⟩, some ⟨g7 + 1 + 1 + 1 + 1 + 1 + 1 + 1 + 1 + 1, 0, none⟩, [n11], oneP, by decide +kernel, fun z hz => ⟨(blk_cell (blk_below N16 hz) 12).trans rfl, (blk_cell (blk_below N16 hz) 13).trans rfl, NodesAt.blk (blk_below N8 hz), PartsAt.blk (blk_below N9 hz), fine_cons fine11 (fine_nil), by decide, by decide, by decide⟩⟩
      · exact ⟨some ⟨g7 + 1 + 1 + 1 + 1 + 1 + 1 + 1 + 1 + 1 + 1, 0, none⟩, some ⟨g7 + 1 + 1 + 1 + 1 + 1 + 1 + 1 + 1 + 1 + 1 + 1, 0, none⟩, [nA, n52], p1, by decide +kernel, fun z hz => ⟨(blk_cell (blk_below N16 hz) 14).trans rfl, (blk_cell (blk_below N16 hz) 15).trans rfl, NodesAt.blk (blk_below N10 hz), PartsAt.blk (blk_below N11 hz), fine_cons fineA (fine_cons fine52 (fine_nil)), by decide, by decide, by decide⟩⟩
      · exact ⟨some ⟨g7 + 1 + 1 + 1 + 1 + 1 + 1 + 1 + 1 + 1 + 1 + 1 + 1, 0, none⟩, some ⟨g7 + 1 + 1 + 1 + 1 + 1 + 1 + 1 + 1 + 1 + 1 + 1 + 1 + 1, 0, none⟩, [nA, n5t], p1, by decide +kernel, fun z hz => ⟨(blk_cell (blk_below N16 hz) 16).trans rfl, (blk_cell (blk_below N16 hz) 17).trans rfl, NodesAt.blk (blk_below N12 hz), PartsAt.blk (blk_below N13 hz), fine_cons fineA (fine_cons fine5t (fine_nil)), by decide, by decide, by decide⟩⟩
      · exact ⟨some ⟨g7 + 1 + 1 + 1 + 1 + 1 + 1 + 1 + 1 + 1 + 1 + 1 + 1 + 1 + 1, 0, none⟩, some ⟨g7 + 1 + 1 + 1 + 1 + 1 + 1 + 1 + 1 + 1 + 1 + 1 + 1 + 1 + 1 + 1, 0, none⟩, [n60], oneP, by decide +kernel, fun z hz => ⟨(blk_cell (blk_below N16 hz) 18).trans rfl, (blk_cell (blk_below N16 hz) 19).trans rfl, NodesAt.blk (blk_below N14 hz), PartsAt.blk (blk_below N15 hz), fine_cons fine60 (fine_nil), by decide, by decide, by decide⟩⟩
    clear N0 N1 N2 N3 N4 N5 N6 N7 N8 N9 N10 N11 N12 N13 N14 N15 N16 hpa
    have HW7 : Hid (∀ z, Below W7.heap.size W7 z → Below w.heap.size w z ∧ Laid z) := Lib.hid fun z hz => by
      have h := HK.out z (bthen HB hz)
      exact ⟨h.1, h.2.1⟩
    clear HK HC HB
    go_loopw [121] (fun iv wr => ∃ k : Nat, k ≤ 10 ∧ iv = .int .i64 k ∧ Below W7.heap.size W7 wr) (fun iv _ => 10 - (RowKit.intOf iv).toNat)
    case atStart => exact ⟨0, by omega, rfl, Below.refl _ _⟩
    case round =>
      obtain ⟨k, hk, rfl, HZ0⟩ := hrel
      obtain ⟨zr, hzr, HZ⟩ := name_world HZ0
      subst hzr
      clear HZ0
      by_cases hlt : k < 10
      · obtain ⟨A, A', ns, ps, hr, hc⟩ := HX.out k hlt
        obtain ⟨c0, c1, T⟩ := hc _ HZ
        have i1 : (k : Int) < 10 := by omega
        have HR := Lib.hid hr
        have HT := Lib.hid hc
        clear hc T hr
        go_wp2_with fail
        have hbx := blk_new zr (.cells #[.slice A ns.length ns.length, .slice A' ps.length ps.length] 33)
        obtain ⟨Zb, hZb⟩ : ∃ Zb, Zb = zr.alloc (.cells #[.slice A ns.length ns.length, .slice A' ps.length ps.length] 33) := ⟨_, rfl⟩
        have HBb : Below W7.heap.size W7 Zb := by rw [hZb]; exact HZ.alloc HZ.size _
        rw [← hZb] at hbx
        change Calls _ _ _ (zr.alloc (.cells #[.slice A ns.length ns.length, .slice A' ps.length ps.length] 33)) _
        rw [← hZb]
        have HD : Hid (∀ y, Below Zb.heap.size Zb y → y.cell? ⟨zr.heap.size, 0, none⟩ = some (.slice A ns.length ns.length) ∧ y.cell? ⟨zr.heap.size, 1, none⟩ = some (.slice A' ps.length ps.length) ∧ TreeAt y A A' ns ps ∧ Laid y ∧ Below W7.heap.size W7 y) := by
          refine Lib.hid fun y hy => ?_
          have k := blk_below hbx hy
          have h7 := HBb.trans (hy.mono HBb.size)
          exact ⟨(blk_cell k 0).trans rfl, (blk_cell k 1).trans rfl, (HT.out y h7).2.2, (HW7.out y h7).2, h7⟩
        clear hbx hZb c0 c1
        refine (kright ns.length ps.length false (HD.out _ (Below.refl _ _)).2.2.1 rfl rfl HR.out).mono ?_
        rintro e v1 ⟨rfl, HV⟩
        obtain ⟨k0, k1, -, -, -⟩ := HD.out _ HV
        go_wp2_with fail
        clear k0 k1
        refine (kprint ns.length ps.length [] (HD.out _ HV).2.2.1 (HD.out _ HV).2.2.2.1 rfl rfl (wrong_print HR.out)).mono ?_
        rintro e v2 ⟨rfl, B⟩
        replace HV := bthen HV B
        clear B
        obtain ⟨k0, k1, -, -, -⟩ := HD.out _ HV
        go_wp2_with fail
        clear k0 k1
        refine (kplaces ns.length ps.length 0 (HD.out _ HV).2.2.1 rfl rfl (wrong_places HR.out)).mono ?_
        rintro e v3 ⟨rfl, B⟩
        replace HV := bthen HV B
        clear B
        obtain ⟨k0, k1, -, -, -⟩ := HD.out _ HV
        go_wp2_with fail
        clear k0 k1
        refine (kdepth ns.length ps.length 0 (HD.out _ HV).2.2.1 rfl rfl (wrong_depth HR.out)).mono ?_
        rintro e v4 ⟨rfl, B⟩
        replace HV := bthen HV B
        clear B
        obtain ⟨k0, k1, -, -, -⟩ := HD.out _ HV
        go_wp2_with fail
        go_roundw
        case rel => exact ⟨k + 1, by omega, by go_num, (HD.out _ HV).2.2.2.2⟩
        case measure => simp [RowKit.intOf]; omega
      · have hke : k = 10 := by omega
        subst hke
        clear hk hlt
        go_wp2_with fail
        refine (awake6_any _ (HW7.out _ HZ).2).mono ?_
        rintro e v9 ⟨rfl, B9⟩
        have HE := Lib.hid (bthen (HW7.out _ HZ).1 B9)
        clear B9
        go_wp2_with fail
        go_ret
        exact ⟨rfl, HE.out⟩
end Go.Proofs.YtebkaajnnjfhjaaDoor
