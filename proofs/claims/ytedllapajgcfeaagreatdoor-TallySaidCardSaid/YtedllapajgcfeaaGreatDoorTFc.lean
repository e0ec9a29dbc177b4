/-
  internal/strconv.shortFloat at the number 0.1: 10 to the power of 15, and -16.
-/
import Derived.Test.YtedllapajgcfeaaGreatDoorTFa
import Derived.Test.YtedllapajgcfeaaGreatDoorTFb
namespace Go.Proofs.YtedllapajgcfeaaGreatDoor
open Go.RowKit Go.Proofs.YtedllapajgcfeaaGreatDoorW.PrintWords

def Pow (w : World) : Prop := w.cell? ⟨10, 730, none⟩ = some (.int .u64 12800000000000000000) ∧ w.cell? ⟨10, 731, none⟩ = some (.int .u64 0) ∧ 10 < w.heap.size
def scz : Obj := .cells #[.int .u64 0, .int .u64 0, .int .i64 0] 138
def scw (w : World) : World := (((w.alloc scz).setCell ⟨w.heap.size, 0, none⟩ (.int .u64 12800000000000000000)).setCell ⟨w.heap.size, 1, none⟩ (.int .u64 0)).setCell ⟨w.heap.size, 2, none⟩ (.int .i64 8)
theorem scw_blk (w : World) : (scw w).heap[w.heap.size]? = some (.cells #[.int .u64 12800000000000000000, .int .u64 0, .int .i64 8] 138 (0, 0)) := by
  have h0 : (w.alloc scz).heap[w.heap.size]? = some (.cells #[.int .u64 0, .int .u64 0, .int .i64 0] 138 (0, 0)) := blk_new w scz
  have h1 : ((w.alloc scz).setCell ⟨w.heap.size, 0, none⟩ (.int .u64 12800000000000000000)).heap[w.heap.size]? = some (.cells #[.int .u64 12800000000000000000, .int .u64 0, .int .i64 0] 138 (0, 0)) := by simpa using blk_set h0 0 (.int .u64 12800000000000000000)
  have h2 : (((w.alloc scz).setCell ⟨w.heap.size, 0, none⟩ (.int .u64 12800000000000000000)).setCell ⟨w.heap.size, 1, none⟩ (.int .u64 0)).heap[w.heap.size]? = some (.cells #[.int .u64 12800000000000000000, .int .u64 0, .int .i64 0] 138 (0, 0)) := by simpa using blk_set h1 1 (.int .u64 0)
  simpa [scw] using blk_set h2 2 (.int .i64 8)
theorem scw_below (w : World) : Below w.heap.size w (scw w) := by
  unfold scw
  exact ((((Below.refl _ _).alloc (Nat.le_refl _) _).setCell (Nat.le_refl _) _).setCell (Nat.le_refl _) _).setCell (Nat.le_refl _) _
set_option maxHeartbeats 1600000 in
theorem short_1 (w : World) (hp : Pow w) : Calls Tryz.prog 70 #[.int .u64 14757395258967642112, .int .i64 (-67)] w fun e w' => e = .returned (.tuple #[.int .u64 1000000000000000, .int .i64 (-16)]) ∧ Below w.heap.size w w' := by
  have hg : w.heap.size ≠ 10 := by have := hp.2.2; omega
  have T0 : (w.alloc scz).cell? ⟨10, 730, none⟩ = some (.int .u64 12800000000000000000) := (((Below.refl w.heap.size w).alloc (Nat.le_refl _) scz).cell (p := ⟨10, 730, none⟩) hp.2.2).trans hp.1
  have T1 : (w.alloc scz).cell? ⟨10, 731, none⟩ = some (.int .u64 0) := (((Below.refl w.heap.size w).alloc (Nat.le_refl _) scz).cell (p := ⟨10, 731, none⟩) hp.2.2).trans hp.2.1
  have HP : Hid (Calls Tryz.prog 98 #[.pointer (some ⟨w.heap.size, 0, none⟩), .int .i64 (-67), .int .i64 17, .int .i64 56] (w.alloc scz) fun e w' => e = .returned (.tuple #[]) ∧ w' = scw w) := Lib.hid (prescale_1 w.heap.size (w.alloc scz) (blk_new w scz) T0 T1 hg)
  have b1 : bits .and .i64 7205759403792794 1 = 0 := by decide +kernel
  have c0 := Lib.hid ((blk_cell (scw_blk w) 0).trans rfl : (scw w).cell? ⟨w.heap.size, 0, none⟩ = some (.int .u64 12800000000000000000))
  have c2 := Lib.hid ((blk_cell (scw_blk w) 2).trans rfl : (scw w).cell? ⟨w.heap.size, 2, none⟩ = some (.int .i64 8))
  clear T0 T1 hg hp
  go_enter Tryz.func70, Tryz.ntmps70
  go_wp2_with fail
  refine (log10_1 _).mono ?_
  rintro e w1 ⟨rfl, rfl⟩
  go_wp2_with fail
  refine (log2_1 _).mono ?_
  rintro e w1 ⟨rfl, rfl⟩
  go_wp2_with fail
  refine (HP.out).mono ?_
  rintro e w1 ⟨rfl, rfl⟩
  have hB := Lib.hid (scw_below w)
  generalize scw w = w1 at c0 c2 hB ⊢
  go_wp2_with fail
  refine (uscale_1 _ _ c0.out c2.out).mono ?_
  rintro e w2 ⟨rfl, rfl⟩
  go_wp2_with fail
  refine (nudge_1 _).mono ?_
  rintro e w2 ⟨rfl, rfl⟩
  go_wp2_with fail
  refine (ceil_1 _).mono ?_
  rintro e w2 ⟨rfl, rfl⟩
  go_wp2_with fail
  refine (uscale_2 _ _ c0.out c2.out).mono ?_
  rintro e w2 ⟨rfl, rfl⟩
  go_wp2_with fail
  refine (nudge_2 _).mono ?_
  rintro e w2 ⟨rfl, rfl⟩
  go_wp2_with fail
  refine (floor_1 _).mono ?_
  rintro e w2 ⟨rfl, rfl⟩
  go_wp2_with fail
  go_ret2
  exact ⟨rfl, hB.out⟩
end Go.Proofs.YtedllapajgcfeaaGreatDoor
