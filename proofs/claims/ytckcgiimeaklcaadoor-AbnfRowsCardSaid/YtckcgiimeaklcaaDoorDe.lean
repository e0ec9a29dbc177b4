/-
  Derives: its table is built; walked.
-/
import Derived.Test.YtckcgiimeaklcaaDoorFl
import Derived.Deep.RegionLaw
namespace Go.Proofs.YtckcgiimeaklcaaDoor
set_option linter.unusedVariables false
set_option linter.unusedSimpArgs false
open Go.RowKit Go.Proofs.YtckcgiimeaklcaaDoorW.PrintWords
open Ab (T El R Rs sz rootI post els root hasR szs Tb TT)

def rowZ (m : Nat) : Array Value := madeCells #[.int .u64 0, .int .u64 0] (m * 2)
theorem make_row (m : Nat) (hm : m ≤ 1000) : ∀ W : World, (Instr.makeSlice 50 (.int .i64 (m : Int)) (.int .i64 (m : Int))).run Tryd.prog W = .ok (.slice (some ⟨W.heap.size, 0, none⟩) m m) (W.alloc (.cells (rowZ m) 53)) := by
  intro W
  obtain ⟨i, hi, hzz⟩ := Option.map_eq_some_iff.1 (show (Tryd.prog.info? 53).map (fun i => (i.zero, i.size, i.bytes)) = some (some (.agg #[.int .u64 0, .int .u64 0]), 2, 16) by kernel_rfl)
  simp only [Prod.mk.injEq] at hzz
  obtain ⟨hz0, hz1, hz2⟩ := hzz
  have := run_make (P := Tryd.prog) W 50 53 i _ Tryd.underlying50 hi hz0 .i64 .i64 (m : Int) (m : Int) (by omega) (by omega) (by rw [hz2]; omega) (by omega)
  rw [hz1] at this
  rw [show (Value.agg #[.int .u64 0, .int .u64 0]).cells = #[.int .u64 0, .int .u64 0] from rfl] at this
  simpa [rowZ] using this
theorem rowZ_at (m i : Nat) (hi : i < m) : (rowZ m)[i * 2]? = some (.int .u64 0) ∧ (rowZ m)[i * 2 + 1]? = some (.int .u64 0) := by
  unfold rowZ madeCells
  constructor
  · rw [Array.getElem?_map, Array.getElem?_range, if_pos (by omega)]
    simp
  · rw [Array.getElem?_map, Array.getElem?_range, if_pos (by omega)]
    have : (i * 2 + 1) % 2 = 1 := by omega
    simp [this]
def rowV (m g : Nat) : Value := .slice (some ⟨g, 0, none⟩) m m
/-- The table while it is built. -/
structure Bld (w0 W : World) (gt gg : Nat) (wd : List UInt8) (gsL : List Nat) (vA : Value) : Prop where
  bel : Below w0.heap.size w0 W
  lt : w0.heap.size ≤ gt
  tblk : W.heap[gt]? = some (.cells #[.pointer (some ⟨gg, 0, none⟩), .string ⟨wd.toArray⟩, vA] 49 (0, 0))
  own : W.ownsRow w0.heap.size 50 1 vA gsL.length (gsL.map (rowV (wd.length + 1)))
  row : ∀ g ∈ gsL, W.heap[g]? = some (.cells (rowZ (wd.length + 1)) 53 (0, 0)) ∧ w0.heap.size ≤ g
  nod : gsL.Nodup
  nl : gsL.length ≤ 1500
section
variable {w0 W w1 : World} {gt gg : Nat} {wd : List UInt8} {gsL : List Nat} {vA : Value}
theorem Bld.cells (h : Bld w0 W gt gg wd gsL vA) : W.cell? ⟨gt, 0, none⟩ = some (.pointer (some ⟨gg, 0, none⟩)) ∧ W.cell? ⟨gt, 1, none⟩ = some (.string ⟨wd.toArray⟩) ∧ W.cell? ⟨gt, 2, none⟩ = some vA := ⟨(blk_cell h.tblk 0).trans rfl, (blk_cell h.tblk 1).trans rfl, (blk_cell h.tblk 2).trans rfl⟩
/-- One row more. -/
theorem Bld.add (h : Bld w0 W gt gg wd gsL vA) {M : World} (hM : M = W.alloc (.cells (rowZ (wd.length + 1)) 53)) {v1 : Value} (ho : w1.ownsRow w0.heap.size 50 1 v1 (gsL.length + 1) ((gsL ++ [W.heap.size]).map (rowV (wd.length + 1)))) (hg : M.grownBy w1 vA.ownBlock) (hn : gsL.length < 1500) :
    Bld w0 (w1.setCell ⟨gt, 2, none⟩ v1) gt gg wd (gsL ++ [W.heap.size]) v1 := by
  have hWM : Below W.heap.size W M := by rw [hM]; exact (Below.refl _ _).alloc (Nat.le_refl _) _
  have hgW : W.grownBy w1 vA.ownBlock := World.grownBy.trans (grown_of_below hWM _) hg
  have hsz : w0.heap.size ≤ W.heap.size := h.bel.size
  have htb := blk_grown h.tblk hgW (own_ne h.own h.tblk (by decide))
  have hb : Below w0.heap.size w0 w1 := ⟨hgW.os.trans h.bel.os, hgW.tape.trans h.bel.tape, hgW.output.trans h.bel.output, Nat.le_trans h.bel.size hgW.size, fun k hk => (hgW.block k (by omega) (fun e => by have := own_base h.own k e.symm; omega)).trans (h.bel.block k hk)⟩
  have hnew : M.heap[W.heap.size]? = some (.cells (rowZ (wd.length + 1)) 53 (0, 0)) := by rw [hM]; exact blk_new W _
  have hMo : M.ownsRow w0.heap.size 50 1 vA gsL.length (gsL.map (rowV (wd.length + 1))) := pw_own_below h.own hWM
  have hnew1 := blk_grown hnew hg (own_ne hMo hnew (by decide))
  refine ⟨hb.setCell (p := ⟨gt, 2, none⟩) h.lt _, h.lt, blk_set htb 2 v1, ?_, ?_, ?_, by simp; omega⟩
  · have := own_setCell ho (p := ⟨gt, 2, none⟩) (own_ne ho htb (by decide)) v1
    simpa using this
  · intro g hgm
    rcases List.mem_append.1 hgm with hgm | hgm
    · obtain ⟨h1, h2⟩ := h.row g hgm
      have h3 := blk_grown h1 hgW (own_ne h.own h1 (by decide))
      exact ⟨blk_far h3 (p := ⟨gt, 2, none⟩) (blk_ne h3 htb (by decide)) _, h2⟩
    · obtain rfl : g = W.heap.size := by simpa using hgm
      exact ⟨blk_far hnew1 (p := ⟨gt, 2, none⟩) (blk_ne hnew1 htb (by decide)) _, hsz⟩
  · rw [List.nodup_append]
    refine ⟨h.nod, by simp, fun a ha b hb e => ?_⟩
    have := blk_lt (h.row a ha).1
    simp at hb
    omega
end
section
variable {ops : Array Oper} {o : Oper} {a : Act} {Q : Exit → Act → World → Prop} {K : Act → World → Prop}
/-- One row more behind those that there are: a step of a drawn region. -/
theorem step_row {X Y : World} (M : World) {w0 : World} {gt gg : Nat} {wd : List UInt8} {gsL : List Nat} {vA : Value} (h : Bld w0 X gt gg wd gsL vA) (hM : Hid (M = X.alloc (.cells (rowZ (wd.length + 1)) 53)))
    (s y : Operand) (hw : Region.wanted o (yielded ops a.tmps) = true) (ho : o.op = .call { callee := .builtin .append, args := #[s, y], argTypes := #[47, 47] })
    (hs : a.eval s = vA) (hx : a.eval y = .slice (some ⟨M.drew.heap.size, 0, none⟩) 1 1) (hY : Y = M.drew.alloc (.cells #[rowV (wd.length + 1) X.heap.size] 50))
    (k : ∀ A1 cap1 w1, Hid (w1.ownsRow w0.heap.size 50 1 (.slice A1 (gsL.length + 1) cap1) (gsL.length + 1) ((gsL ++ [X.heap.size]).map (rowV (wd.length + 1))) ∧ M.grownBy w1 vA.ownBlock) →
      w1.cell? ⟨gt, 2, none⟩ = some vA → w1.frozen? ⟨gt, 2, none⟩ = false → K (a.put o.dst (.slice A1 (gsL.length + 1) cap1)) w1) :
    if Region.wanted o (yielded ops a.tmps) = true then Oper.wp Tryd.prog o a Y K Q else K (a.put o.dst undef) Y := by
  subst hY
  have hM := hM.out
  have hWM : Below X.heap.size X M.drew := by rw [hM]; exact ((Below.refl _ _).alloc (Nat.le_refl _) _).drew
  have happ : gsL.map (rowV (wd.length + 1)) ++ [rowV (wd.length + 1) X.heap.size] = (gsL ++ [X.heap.size]).map (rowV (wd.length + 1)) := by simp
  have hz : (gsL.length + 1) * 24 ≤ 140737488355328 := by have := h.nl; omega
  refine step_append_cells (w0 := M.drew) w0.heap.size hw s y 47 50 (.slice none 0 0) 1 24 ho Tryd.underlying47 (by kernel_rfl) (by rfl) (by decide) (by decide) vA gsL.length (gsL.map (rowV (wd.length + 1))) [rowV (wd.length + 1) X.heap.size] hs hx (by rfl) (by simp [rowV, Value.oneCell']) (pw_own_below h.own hWM) (Below.refl _ _) (by have := h.bel.size; have := hWM.size; omega) hz ?_
  intro v1 w1 hown hb1 hg1 hat1
  rw [happ] at hown
  obtain ⟨A1, cap1, rfl⟩ := own_slice hown
  have hg2 : M.grownBy w1 vA.ownBlock := ⟨hg1.os, hg1.tape, hg1.output, hg1.size, hg1.block⟩
  have hgX : X.grownBy w1 vA.ownBlock := World.grownBy.trans (grown_of_below hWM _) hg1
  have htb := blk_grown h.tblk hgX (own_ne h.own h.tblk (by decide))
  exact k A1 cap1 w1 (Lib.hid ⟨hown, hg2⟩) ((blk_cell htb 2).trans rfl) (blk_frozen htb 2)
end
end Go.Proofs.YtckcgiimeaklcaaDoor
