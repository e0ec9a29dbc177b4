/-
  A row of whole numbers in memory.
-/
import Derived.WalkKit
import Derived.Below
namespace Go.Proofs.YtebkaajnnjfhjaaDoor
open Go.RowKit

/-- A row of whole numbers, as an argument: its numbers stand in their cells. -/
def IntsAt (W : World) (k : IntKind) (a0 : Option Addr) (zs : List Int) : Prop := ∀ i (h : i < zs.length), ∃ a, a0 = some a ∧ a.block < W.heap.size ∧ W.cell? (a.add i) = some (.int k zs[i])
theorem add_block (a : Addr) (i : Nat) : (a.add i).block = a.block := by unfold Addr.add; split <;> rfl
theorem IntsAt.below {W W' : World} {k : IntKind} {a0 : Option Addr} {zs : List Int} (h : IntsAt W k a0 zs) (hb : Below W.heap.size W W') : IntsAt W' k a0 zs := fun i hi =>
  let ⟨a, e, hlt, hc⟩ := h i hi
  ⟨a, e, Nat.lt_of_lt_of_le hlt hb.size, (hb.cell (p := a.add i) (by rw [add_block]; exact hlt)).trans hc⟩
end Go.Proofs.YtebkaajnnjfhjaaDoor
