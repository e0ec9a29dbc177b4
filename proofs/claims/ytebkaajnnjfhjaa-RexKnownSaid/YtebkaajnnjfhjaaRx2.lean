/-
  The reader's node: walked.
-/
import Derived.Test.YtebkaajnnjfhjaaRx1
import Derived.Deep.RegionLaw
namespace Go.Proofs.Ytebkaajnnjfhjaa
set_option linter.unusedVariables false
set_option linter.unusedSimpArgs false
open Go.RowKit Go.Proofs.YtebkaajnnjfhjaaW.PrintWords
open Tr (Nd Pt T R sz rootI post)

section
variable {ops : Array Oper} {o : Oper} {a : Act} {Q : Exit → Act → World → Prop} {K : Act → World → Prop}
/-- One node more behind those that there are: a step of a drawn region. -/
theorem step_node {X Y : World} (W : World) {base g : Nat} {l r : List UInt8} {p op : Nat} {ns : List Nd} {ps : List Pt} {vN vP : Value} (n : Nd) (hn : ns.length ≤ 100000) (h : RS X base g l r p op ns ps vN vP)
    (s x : Operand) (hw : Region.wanted o (yielded ops a.tmps) = true) (ho : o.op = .call { callee := .builtin .append, args := #[s, x], argTypes := #[24, 24] })
    (hs : a.eval s = vN) (hx : a.eval x = .slice (some ⟨W.heap.size, 0, none⟩) 1 1) (hW : Below X.heap.size X W) (hY : Y = W.alloc (.cells #[.int .u8 n.k, .int .u64 n.s.a, .int .u64 n.s.b, .int .u64 n.s.c, .int .u64 n.s.d, .int .i64 n.a, .int .i64 n.b, .int .i64 n.mn, .int .i64 n.mx] 36))
    (k : ∀ A1 cap1 w1, Hid (w1.ownsRow base 36 9 (.slice A1 (ns.length + 1) cap1) (ns.length + 1) ((ns ++ [n]).flatMap ndC) ∧ w1.heap[g]? = some (.cells #[.string ⟨l.toArray⟩, .int .i64 p, .int .i64 op, vN, vP] 46 (0, 0)) ∧ w1.ownsRow base 50 2 vP ps.length (ps.flatMap ptC) ∧ Below base X w1) →
      w1.cell? ⟨g, 3, none⟩ = some vN → w1.frozen? ⟨g, 3, none⟩ = false → Hid (∀ b cs t, X.heap[b]? = some (.cells cs t (0, 0)) → some b ≠ vN.ownBlock → w1.heap[b]? = some (.cells cs t (0, 0))) → K (a.put o.dst (.slice A1 (ns.length + 1) cap1)) w1) :
    if Region.wanted o (yielded ops a.tmps) = true then Oper.wp Try.prog o a Y K Q else K (a.put o.dst undef) Y := by
  subst hY
  have happ : ns.flatMap ndC ++ ndC n = (ns ++ [n]).flatMap ndC := by rw [List.flatMap_append]; simp
  have hz : (ns.length + 1) * 72 ≤ 140737488355328 := by omega
  have hX := h.below hW
  refine step_append_cells (w0 := W) base hw s x 24 36 (.agg #[.int .u8 0, .int .u64 0, .int .u64 0, .int .u64 0, .int .u64 0, .int .i64 0, .int .i64 0, .int .i64 0, .int .i64 0]) 9 72 ho Try.underlying24 (by kernel_rfl) (by rfl) (by decide) (by decide) vN ns.length (ns.flatMap ndC) (ndC n) hs hx (by rfl) (by simp [ndC, Value.oneCell']) hX.rN (Below.refl _ _) hX.lt hz ?_
  intro v1 w1 hown hb1 hg1 hat1
  rw [happ] at hown
  obtain ⟨A1, cap1, rfl⟩ := own_slice hown
  have hblk := blk_grown hX.blk hg1 (own_ne hX.rN hX.blk (by decide))
  have hrp := own_other hX.rP hg1 (own_type_ne hX.rP hX.rN (by decide))
  refine k A1 cap1 w1 (Lib.hid ⟨hown, hblk, hrp, (hW.mono h.lt).trans hb1⟩) ((blk_cell hblk 3).trans rfl) (blk_frozen hblk 3) (Lib.hid fun b cs t hb hne => blk_grown (blk_below hb hW) hg1 hne)
end
section
variable {w0 w : World} {base g : Nat} {l r : List UInt8} {p op : Nat} {ns : List Nd} {ps : List Pt} {vN vP : Value}
set_option maxHeartbeats 1600000 in
theorem rdnode_any (n : Nd) (hn : ns.length ≤ 100000) (h : RS w base g l r p op ns ps vN vP) : Calls Try.prog 23 #[.pointer (some ⟨g, 0, none⟩), .agg #[.int .u8 n.k, .int .u64 n.s.a, .int .u64 n.s.b, .int .u64 n.s.c, .int .u64 n.s.d, .int .i64 n.a, .int .i64 n.b, .int .i64 n.mn, .int .i64 n.mx]] w fun e w' => e = .returned (.int .i64 ns.length) ∧ (∃ vN', RS w' base g l r p op (ns ++ [n]) ps vN' vP) ∧ Below base w w' := by
  have H := Lib.hid h
  obtain ⟨c0, c1, c2, c3, c4⟩ := h.cells
  have f3 := h.ice 3
  clear h
  go_enter Try.func23, Try.ntmps23
  go_wp2_with fail
  obtain ⟨X, hX⟩ : ∃ X, X = w.alloc (.cells #[.int .u8 n.k, .int .u64 n.s.a, .int .u64 n.s.b, .int .u64 n.s.c, .int .u64 n.s.d, .int .i64 n.a, .int .i64 n.b, .int .i64 n.mn, .int .i64 n.mx] 36) := ⟨_, rfl⟩
  have hBX : Below w.heap.size w X := by rw [hX]; exact (Below.refl _ _).alloc (Nat.le_refl _) _
  have hbX : X.heap[w.heap.size]? = some (.cells #[.int .u8 n.k, .int .u64 n.s.a, .int .u64 n.s.b, .int .u64 n.s.c, .int .u64 n.s.d, .int .i64 n.a, .int .i64 n.b, .int .i64 n.mn, .int .i64 n.mx] 36 (0, 0)) := by rw [hX]; exact blk_new w _
  have hne : some w.heap.size ≠ vN.ownBlock := fun e => by have := own_lt H.out.rN _ e.symm; omega
  with_reducible change Code.wp _ _ _ _ (w.alloc (.cells #[.int .u8 n.k, .int .u64 n.s.a, .int .u64 n.s.b, .int .u64 n.s.c, .int .u64 n.s.d, .int .i64 n.a, .int .i64 n.b, .int .i64 n.mn, .int .i64 n.mx] 36))
  rw [← hX]
  have HX := Lib.hid (H.out.below hBX)
  clear c0 c1 c2 c3 c4 f3 hX
  obtain ⟨c0, c1, c2, c3, c4⟩ := HX.out.cells
  have HBX := Lib.hid hBX
  have happ : ns.flatMap ndC ++ ndC n = (ns ++ [n]).flatMap ndC := by rw [List.flatMap_append]; simp
  have hz : (ns.length + 1) * 72 ≤ 140737488355328 := by omega
  have hlt := H.out.lt
  have HH := Lib.hid (And.intro (And.intro happ hz) (And.intro hne hlt))
  generalize w.heap.size = gb at *
  have HbX := Lib.hid hbX
  have k0 : X.cell? ⟨gb, 0, none⟩ = some (.int .u8 n.k) := (blk_cell hbX 0).trans rfl
  have k1 : X.cell? ⟨gb, 1, none⟩ = some (.int .u64 n.s.a) := (blk_cell hbX 1).trans rfl
  have k2 : X.cell? ⟨gb, 2, none⟩ = some (.int .u64 n.s.b) := (blk_cell hbX 2).trans rfl
  have k3 : X.cell? ⟨gb, 3, none⟩ = some (.int .u64 n.s.c) := (blk_cell hbX 3).trans rfl
  have k4 : X.cell? ⟨gb, 4, none⟩ = some (.int .u64 n.s.d) := (blk_cell hbX 4).trans rfl
  have k5 : X.cell? ⟨gb, 5, none⟩ = some (.int .i64 n.a) := (blk_cell hbX 5).trans rfl
  have k6 : X.cell? ⟨gb, 6, none⟩ = some (.int .i64 n.b) := (blk_cell hbX 6).trans rfl
  have k7 : X.cell? ⟨gb, 7, none⟩ = some (.int .i64 n.mn) := (blk_cell hbX 7).trans rfl
  have k8 : X.cell? ⟨gb, 8, none⟩ = some (.int .i64 n.mx) := (blk_cell hbX 8).trans rfl
  clear happ hz hne hlt hbX hBX
  have f3X := HX.out.ice 3
  have c3X : ∀ o, (X.alloc o).cell? ⟨g, 3, none⟩ = some vN := fun o => (blk_cell (blk_alloc HX.out.blk o) 3).trans rfl
  go_region_law ((refine step_node X.drew n (by assumption) HX.out _ _ (by rfl) (by rfl) (by simp [Act.eval, Act.put]) (by simp [Act.eval, Act.put]) (Below.refl X.heap.size X).drew (by rfl) ?_; intro A1 cap1 w1 HO d4 d3 HGR))
  all_goals
    go_wp2_with fail
    go_ret
    obtain ⟨ho, hb, hr, hB⟩ := HO.out
    refine ⟨rfl, ⟨_, blk_put hb 3 _ rfl, ?_, ?_, HX.out.bg, HX.out.dr, HX.out.pl, HX.out.ll, HX.out.op⟩, ((HBX.out.mono HH.out.2.2).trans hB).setCell (p := ⟨g, 3, none⟩) H.out.bg _⟩
    · have := own_setCell ho (p := ⟨g, 3, none⟩) (own_ne ho hb (by decide)) (.slice A1 (ns.length + 1) cap1)
      simpa using this
    · exact own_setCell hr (p := ⟨g, 3, none⟩) (own_ne hr hb (by decide)) _
end
end Go.Proofs.Ytebkaajnnjfhjaa
