/-
  Law 06's own tree, and what it asks of it: walked.
-/
import Derived.Test.YtebkaajnnjfhjaaDoorOfs
import Derived.Test.YtebkaajnnjfhjaaDoorPrint
import Derived.Test.YtebkaajnnjfhjaaDoorDepth
import Derived.Test.YtebkaajnnjfhjaaDoorPlaces
namespace Go.Proofs.YtebkaajnnjfhjaaDoor
set_option linter.unusedVariables false
set_option linter.unusedSimpArgs false
open Go.RowKit Go.Proofs.YtebkaajnnjfhjaaDoorW.PrintWords
open Tr (Nd Pt)

/-! ### nodes and parts in a block that is known whole -/
def ndc (n : Nd) : List Value := [.int .u8 n.k, .int .u64 n.s.a, .int .u64 n.s.b, .int .u64 n.s.c, .int .u64 n.s.d, .int .i64 n.a, .int .i64 n.b, .int .i64 n.mn, .int .i64 n.mx]
def ptc (p : Pt) : List Value := [.int .i64 p.root, .bool p.no]
theorem flat_at {α : Type} (f : α → List Value) (s : Nat) (hs : ∀ a, (f a).length = s) (l : List α) : ∀ (i : Nat) (h : i < l.length) (j : Nat), j < s → (l.flatMap f)[i * s + j]? = (f l[i])[j]? := by
  induction l with
  | nil => intro i h; simp at h
  | cons a l ih =>
    intro i h j hj
    rw [List.flatMap_cons]
    rcases i with _ | i
    · rw [Nat.zero_mul, Nat.zero_add, List.getElem?_append_left (by rw [hs]; exact hj)]
      rfl
    · have e : (i + 1) * s + j = (f a).length + (i * s + j) := by rw [hs, Nat.add_mul]; omega
      rw [e, List.getElem?_append_right (by omega), Nat.add_sub_cancel_left]
      exact ih i (by simpa using h) j hj
theorem NodesAt.blk {w : World} {g : Nat} {t : TypeId} {ns : List Nd} (h : w.heap[g]? = some (.cells (ns.flatMap ndc).toArray t (0, 0))) : NodesAt w (some ⟨g, 0, none⟩) ns := by
  intro i hi
  have hc : ∀ j u, j < 9 → (ndc ns[i])[j]? = some u → w.cell? ⟨g, i * 9 + j, none⟩ = some u := by
    intro j u hj hu
    rw [blk_cell h (i * 9 + j), List.getElem?_toArray, flat_at ndc 9 (fun _ => rfl) ns i hi j hj]
    exact hu
  have ha : (⟨g, 0, none⟩ : Addr).add (i * 9) = ⟨g, i * 9, none⟩ := by unfold Addr.add; split <;> simp_all
  refine ⟨_, rfl, blk_lt h, ?_⟩
  rw [ha]
  exact ⟨hc 0 _ (by omega) rfl, hc 1 _ (by omega) rfl, hc 2 _ (by omega) rfl, hc 3 _ (by omega) rfl, hc 4 _ (by omega) rfl, hc 5 _ (by omega) rfl, hc 6 _ (by omega) rfl, hc 7 _ (by omega) rfl, hc 8 _ (by omega) rfl⟩
theorem PartsAt.blk {w : World} {g : Nat} {t : TypeId} {ps : List Pt} (h : w.heap[g]? = some (.cells (ps.flatMap ptc).toArray t (0, 0))) : PartsAt w (some ⟨g, 0, none⟩) ps := by
  intro i hi
  have hc : ∀ j u, j < 2 → (ptc ps[i])[j]? = some u → w.cell? ⟨g, i * 2 + j, none⟩ = some u := by
    intro j u hj hu
    rw [blk_cell h (i * 2 + j), List.getElem?_toArray, flat_at ptc 2 (fun _ => rfl) ps i hi j hj]
    exact hu
  have ha : (⟨g, 0, none⟩ : Addr).add (i * 2) = ⟨g, i * 2, none⟩ := by unfold Addr.add; split <;> simp_all
  refine ⟨_, rfl, blk_lt h, ?_⟩
  rw [ha]
  exact ⟨hc 0 _ (by omega) rfl, hc 1 _ (by omega) rfl⟩

theorem blk_new_at (W : World) (o : Obj) (g : Nat) (h : W.heap.size = g) : (W.alloc o).heap[g]? = some o := h ▸ blk_new W o
/-! ### some -/
def sA : W4 := ⟨0, 8589934592, 0, 0⟩
def sB : W4 := ⟨0, 17179869184, 0, 0⟩
theorem sA_eq : W4.ofList [97] = sA := by decide +kernel
theorem sB_eq : W4.ofList [98] = sB := by decide +kernel
theorem all_eq : allW = ⟨18446744073709551615, 18446744073709551615, 18446744073709551615, 18446744073709551615⟩ := by decide +kernel
def someN : List Nd := [⟨2, sA, 0, 0, 0, 0⟩, ⟨2, sB, 0, 0, 0, 0⟩, ⟨3, W4.zero, 0, 1, 0, 0⟩, ⟨1, W4.zero, 0, 0, 0, 0⟩, ⟨4, W4.zero, 2, 3, 0, 0⟩, ⟨2, allW, 0, 0, 0, 0⟩, ⟨5, W4.zero, 5, 0, 0, -1⟩]
def someP : List Pt := [⟨4, false⟩, ⟨6, true⟩]
theorem someN_ok : ∀ n ∈ someN, NdOk n := by
  intro n hn
  simp only [someN, List.mem_cons, List.not_mem_nil, or_false] at hn
  have hA : sA.Ok := by unfold W4.Ok sA; decide
  have hB : sB.Ok := by unfold W4.Ok sB; decide
  have hZ : W4.zero.Ok := W4.ok_zero
  have hL : allW.Ok := W4.ok_not _
  rcases hn with rfl | rfl | rfl | rfl | rfl | rfl | rfl
  all_goals exact ⟨by decide, by assumption, by decide, by decide, by decide, by decide⟩
theorem someP_ok : ∀ p ∈ someP, -9223372036854775808 ≤ p.root ∧ p.root ≤ 9223372036854775807 := by decide
theorem some_words : Tr.Words someN := fun n hn => (someN_ok n hn).s
theorem some_right : Tr.right someN someP = true := by decide +kernel
theorem some_print : Tr.print someN someP = [97, 98, 124, 40, 41, 38, 33, 46, 42] := by decide +kernel
theorem some_places : Tr.places someN someP = 3 := by decide +kernel
theorem some_depth : Tr.depth someN someP = 3 := by decide +kernel
theorem bat1 (W : World) (c : UInt8) : BAt (W.alloc (.cells #[.int .u8 c.toNat] 5)) W.heap.size [c] := by
  intro j hj
  have : j = 0 := by simp at hj; omega
  subst this
  exact (blk_cell (blk_new W _) 0).trans rfl
theorem of_a (W : World) (g : Nat) (hg : W.heap.size = g) : Calls Tryd.prog 8 #[.slice (some ⟨g, 0, none⟩) 1 1] (W.alloc (.cells #[.int .u8 97] 5)) fun e w' => e = .returned (.agg #[.int .u64 0, .int .u64 8589934592, .int .u64 0, .int .u64 0]) ∧ Below (W.alloc (.cells #[.int .u8 97] 5)).heap.size (W.alloc (.cells #[.int .u8 97] 5)) w' := by
  subst hg
  have := of_any W.heap.size 1 [97] (by decide) (W.alloc (.cells #[.int .u8 97] 5)) (by simp) (bat1 W 97)
  rw [sA_eq] at this
  exact this
theorem of_b (W : World) (g : Nat) (hg : W.heap.size = g) : Calls Tryd.prog 8 #[.slice (some ⟨g, 0, none⟩) 1 1] (W.alloc (.cells #[.int .u8 98] 5)) fun e w' => e = .returned (.agg #[.int .u64 0, .int .u64 17179869184, .int .u64 0, .int .u64 0]) ∧ Below (W.alloc (.cells #[.int .u8 98] 5)).heap.size (W.alloc (.cells #[.int .u8 98] 5)) w' := by
  subst hg
  have := of_any W.heap.size 1 [98] (by decide) (W.alloc (.cells #[.int .u8 98] 5)) (by simp) (bat1 W 98)
  rw [sB_eq] at this
  exact this
theorem all_k (W : World) : Calls Tryd.prog 53 #[] W fun e w' => e = .returned (.agg #[.int .u64 18446744073709551615, .int .u64 18446744073709551615, .int .u64 18446744073709551615, .int .u64 18446744073709551615]) ∧ Below W.heap.size W w' := by
  have := all_any W
  rw [all_eq] at this
  exact this
set_option maxRecDepth 100000 in
set_option maxHeartbeats 1600000 in
theorem some_any (w : World) : Calls Tryd.prog 34 #[] w fun e w' => ∃ A A', e = .returned (.agg #[.slice A 7 7, .slice A' 2 2]) ∧ TreeAt w' A A' someN someP ∧ Below w.heap.size w w' := by
  go_enter Tryd.func34, Tryd.ntmps34
  go_wp2_with fail
  refine (of_a _ _ (by simp)).mono ?_
  rintro e w1 ⟨rfl, B1⟩
  go_wp2_with fail
  refine (of_b _ _ (by simp)).mono ?_
  rintro e w2 ⟨rfl, B2⟩
  go_wp2_with fail
  refine (all_k _).mono ?_
  rintro e w3 ⟨rfl, B3⟩
  have K3 := blk_below (blk_below (blk_alloc (blk_below (blk_alloc (blk_new w (.cells #[.slice none 0 0, .slice none 0 0] 33)) _) B1) _) B2) B3
  have c0 := blk_cell K3 0
  have c1 := blk_cell K3 1
  have f0 := blk_frozen K3 0
  have f1 := blk_frozen K3 1
  simp at c0 c1
  have s1 := B1.size
  have s2 := B2.size
  have s3 := B3.size
  simp at s1 s2 s3
  have hlt : w.heap.size < w3.heap.size := by omega
  have HB : Below w.heap.size w w3 := by
    have h1 := (((Below.refl w.heap.size w).alloc (Nat.le_refl _) (.cells #[.slice none 0 0, .slice none 0 0] 33)).alloc (by simp) (.cells #[.int .u8 97] 5)).trans (B1.mono (by simp; omega))
    have h2 := (h1.alloc (by omega) (.cells #[.int .u8 98] 5)).trans (B2.mono (by simp; omega))
    exact h2.trans (B3.mono (by omega))
  clear K3 B1 B2 B3 s1 s2 s3
  go_wp2_with fail
  have hne1 : ¬ w.heap.size = w3.heap.size := by omega
  have hne2 : ¬ w.heap.size = w3.heap.size + 1 := by omega
  refine bodyPost_ret (v := .agg #[.slice (some ⟨w3.heap.size, 0, none⟩) 7 7, .slice (some ⟨w3.heap.size + 1, 0, none⟩) 2 2]) (by simp [results, Tryd.results34, go_sem, c0, c1, f0, f1, hlt, hne1, hne2]) rfl ⟨_, _, rfl, ?_, ?_⟩
  · refine ⟨NodesAt.blk (t := 27) (ns := someN) ?_, PartsAt.blk (t := 30) (ps := someP) ?_, ?_, ?_, by decide, by decide⟩
    · exact blk_alloc (blk_new_at _ (.cells (someN.flatMap ndc).toArray 27 (0, 0)) _ (by simp [World.setCell])) _
    · exact blk_new_at _ (.cells (someP.flatMap ptc).toArray 30 (0, 0)) _ (by simp [World.setCell])
    · exact someN_ok
    · exact someP_ok
  · (repeat (first | exact Below.refl _ _ | assumption | refine Below.drew ?_ | refine Below.alloc ?_ (by first | exact Nat.le_refl _ | (simp; done) | (simp; omega) | omega) _ | refine Below.setCell ?_ (by first | exact Nat.le_refl _ | (simp; done) | (simp; omega) | omega) _))
end Go.Proofs.YtebkaajnnjfhjaaDoor
