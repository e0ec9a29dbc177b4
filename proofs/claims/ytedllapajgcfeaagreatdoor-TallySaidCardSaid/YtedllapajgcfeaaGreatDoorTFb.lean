/-
  internal/strconv.prescale at the number 0.1.
-/
import Derived.Test.YtedllapajgcfeaaGreatDoorCmp
namespace Go.Proofs.YtedllapajgcfeaaGreatDoor
open Go.RowKit Go.Proofs.YtedllapajgcfeaaGreatDoorW.PrintWords

theorem prescale_1 (g : Nat) (w : World) (hK : w.heap[g]? = some (.cells #[.int .u64 0, .int .u64 0, .int .i64 0] 138 (0, 0))) (t0 : w.cell? ⟨10, 730, none⟩ = some (.int .u64 12800000000000000000)) (t1 : w.cell? ⟨10, 731, none⟩ = some (.int .u64 0)) (hg : g ≠ 10) : Calls Tryz.prog 98 #[.pointer (some ⟨g, 0, none⟩), .int .i64 (-67), .int .i64 17, .int .i64 56] w fun e w' => e = .returned (.tuple #[]) ∧ w' = ((w.setCell ⟨g, 0, none⟩ (.int .u64 12800000000000000000)).setCell ⟨g, 1, none⟩ (.int .u64 0)).setCell ⟨g, 2, none⟩ (.int .i64 8) := by
  have k0 : w.cell? ⟨g, 0, none⟩ = some (.int .u64 0) := (blk_cell hK 0).trans rfl
  have k1 : w.cell? ⟨g, 1, none⟩ = some (.int .u64 0) := (blk_cell hK 1).trans rfl
  have k2 : w.cell? ⟨g, 2, none⟩ = some (.int .i64 0) := (blk_cell hK 2).trans rfl
  have hg' : ¬ 10 = g := fun e => hg e.symm
  have f0 := blk_frozen hK 0
  have f1 := blk_frozen hK 1
  have f2 := blk_frozen hK 2
  clear hK
  go_enter Tryz.func98, Tryz.ntmps98
  go_wp2_with fail
  first
  | (go_end0; exact ⟨rfl, rfl⟩)
  | exact bodyPost_ret (results_none rfl _ _ _) rfl ⟨rfl, rfl⟩
end Go.Proofs.YtedllapajgcfeaaGreatDoor
