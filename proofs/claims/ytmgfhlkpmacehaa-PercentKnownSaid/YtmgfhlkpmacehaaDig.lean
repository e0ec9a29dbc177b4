/-
  The set of hex digits, the set of all bytes, and how many digits there are.
-/
import Derived.Test.YtmgfhlkpmacehaaPct
import Derived.Test.YtmgfhlkpmacehaaWWords
import Derived.ChangeKeysEq
namespace Go.Proofs.Ytmgfhlkpmacehaa
open Go.RowKit Go.Proofs.YtmgfhlkpmacehaaW.PrintWords

/-- An array's element, by value. -/
theorem run_index_row {P : Program} {w : World} (t e : TypeId) (n : Nat) (cs : Array Value) (k : IntKind) (i : Nat) (h : P.underlying t = some (.array n e)) {I : TypeInfo} (hs : P.info? e = some I) (h1 : P.cellsOf e = 1) (he : P.plainKey e = true) (hi : i < n) (v : Value) (hv : cs[i]? = some v) :
    (Instr.index t (.agg cs) (.int k i)).run P w = .ok v w := by
  have hn : (0 : Int) ≤ (i : Int) ∧ (i : Int) < n := by omega
  have hp := run_part_plain (P := P) (w := w) he hv
  unfold Instr.index
  simp [run_underlying h, asIntOf, hn, run_sizeOf w hs, h1, Result.andThen, hi, hp]
theorem ix_0 (a b c d : Value) (w : World) (k : IntKind) : (Instr.index 24 (.agg #[a, b, c, d]) (.int k 0)).run Try.prog w = .ok a w :=
  run_index_row _ 22 4 _ k 0 Try.underlying24 (I := _) rfl (by kernel_rfl) (by kernel_rfl) (by omega) _ rfl
theorem ix_1 (a b c d : Value) (w : World) (k : IntKind) : (Instr.index 24 (.agg #[a, b, c, d]) (.int k 1)).run Try.prog w = .ok b w :=
  run_index_row _ 22 4 _ k 1 Try.underlying24 (I := _) rfl (by kernel_rfl) (by kernel_rfl) (by omega) _ rfl
theorem ix_2 (a b c d : Value) (w : World) (k : IntKind) : (Instr.index 24 (.agg #[a, b, c, d]) (.int k 2)).run Try.prog w = .ok c w :=
  run_index_row _ 22 4 _ k 2 Try.underlying24 (I := _) rfl (by kernel_rfl) (by kernel_rfl) (by omega) _ rfl
theorem ix_3 (a b c d : Value) (w : World) (k : IntKind) : (Instr.index 24 (.agg #[a, b, c, d]) (.int k 3)).run Try.prog w = .ok d w :=
  run_index_row _ 22 4 _ k 3 Try.underlying24 (I := _) rfl (by kernel_rfl) (by kernel_rfl) (by omega) _ rfl
attribute [go_sem] ix_0 ix_1 ix_2 ix_3

def digW : W4 := (W4.range 48 57).or ((W4.range 97 102).or (W4.range 65 70))
theorem digW_eq : digW = ⟨287948901175001088, 541165879422, 0, 0⟩ := by decide +kernel
theorem digW_ok : digW.Ok := W4.ok_or (W4.ok_range _ _) (W4.ok_or (W4.ok_range _ _) (W4.ok_range _ _))
theorem digW_has : ∀ c : Fin 256, digW.has c.val = Pc.ok c.val := by decide +kernel

set_option maxHeartbeats 800000 in
theorem digits_any (w : World) : Calls Try.prog 23 #[] w fun e w' => e = .returned (.agg #[.int .u64 digW.a, .int .u64 digW.b, .int .u64 digW.c, .int .u64 digW.d]) ∧ Below w.heap.size w w' := by
  go_enter Try.func23, Try.ntmps23
  go_wp2_with fail
  refine (range_any 48 57 (by omega) (by omega) _).mono ?_
  rintro e w1 ⟨rfl, B1⟩
  go_wp2_with fail
  refine (range_any 97 102 (by omega) (by omega) _).mono ?_
  rintro e w2 ⟨rfl, B2⟩
  go_wp2_with fail
  refine (range_any 65 70 (by omega) (by omega) _).mono ?_
  rintro e w3 ⟨rfl, B3⟩
  go_wp2_with fail
  refine (or_any _ _ (W4.ok_range _ _) (W4.ok_range _ _) _).mono ?_
  rintro e w4 ⟨rfl, B4⟩
  go_wp2_with fail
  refine (or_any _ _ (W4.ok_range _ _) (W4.ok_or (W4.ok_range _ _) (W4.ok_range _ _)) _).mono ?_
  rintro e w5 ⟨rfl, B5⟩
  have K := blk_below (blk_below (blk_below (blk_below (blk_below (blk_new w _) B1) B2) B3) B4) B5
  have HB : Below w.heap.size w w5 := ((Below.refl _ _).alloc (Nat.le_refl _) _).trans ((bthen (bthen (bthen (bthen B1 B2) B3) B4) B5).mono (by simp))
  clear B1 B2 B3 B4 B5
  have c0 := blk_cell K 0
  have c1 := blk_cell K 1
  have c2 := blk_cell K 2
  have c3 := blk_cell K 3
  have f0 := blk_frozen K 0
  have f1 := blk_frozen K 1
  have f2 := blk_frozen K 2
  have f3 := blk_frozen K 3
  simp at c0 c1 c2 c3
  clear K
  go_wp2_with fail
  exact bodyPost_ret (v := .agg #[.int .u64 digW.a, .int .u64 digW.b, .int .u64 digW.c, .int .u64 digW.d]) (by simp [results, Try.results23, go_sem, digW, c0, c1, c2, c3]) rfl ⟨rfl, by (repeat (first | exact Below.refl _ _ | assumption | refine Below.drew ?_ | refine Below.alloc ?_ (by first | exact Nat.le_refl _ | (simp; done) | (simp; omega) | omega) _ | refine Below.setCell ?_ (by first | exact Nat.le_refl _ | (simp; done) | (simp; omega) | omega) _))⟩

def allW : W4 := W4.zero.not
theorem allW_has : ∀ c : Fin 256, allW.has c.val = true := by decide +kernel
set_option maxHeartbeats 800000 in
theorem all_any (w : World) : Calls Try.prog 24 #[] w fun e w' => e = .returned (.agg #[.int .u64 allW.a, .int .u64 allW.b, .int .u64 allW.c, .int .u64 allW.d]) ∧ Below w.heap.size w w' := by
  go_enter Try.func24, Try.ntmps24
  go_wp2_with fail
  refine (not_any W4.zero W4.ok_zero _).mono ?_
  rintro e w1 ⟨rfl, B1⟩
  have K := blk_below (blk_new w _) B1
  have HB : Below w.heap.size w w1 := ((Below.refl _ _).alloc (Nat.le_refl _) _).trans (B1.mono (by simp))
  clear B1
  have c0 := blk_cell K 0
  have c1 := blk_cell K 1
  have c2 := blk_cell K 2
  have c3 := blk_cell K 3
  have f0 := blk_frozen K 0
  have f1 := blk_frozen K 1
  have f2 := blk_frozen K 2
  have f3 := blk_frozen K 3
  simp at c0 c1 c2 c3
  clear K
  go_wp2_with fail
  exact bodyPost_ret (v := .agg #[.int .u64 allW.a, .int .u64 allW.b, .int .u64 allW.c, .int .u64 allW.d]) (by simp [results, Try.results24, go_sem, allW, c0, c1, c2, c3]) rfl ⟨rfl, by (repeat (first | exact Below.refl _ _ | assumption | refine Below.drew ?_ | refine Below.alloc ?_ (by first | exact Nat.le_refl _ | (simp; done) | (simp; omega) | omega) _ | refine Below.setCell ?_ (by first | exact Nat.le_refl _ | (simp; done) | (simp; omega) | omega) _))⟩

set_option maxHeartbeats 800000 in
theorem ones_a (w : World) : Calls Try.prog 32 #[.int .u64 287948901175001088] w fun e w' => e = .returned (.int .i64 10) ∧ w = w' := by
  go_enter Try.func32, Try.ntmps32
  go_wp2
  go_ret
  exact ⟨ret_int (by decide +kernel), rfl⟩
set_option maxHeartbeats 800000 in
theorem ones_b (w : World) : Calls Try.prog 32 #[.int .u64 541165879422] w fun e w' => e = .returned (.int .i64 12) ∧ w = w' := by
  go_enter Try.func32, Try.ntmps32
  go_wp2
  go_ret
  exact ⟨ret_int (by decide +kernel), rfl⟩
set_option maxHeartbeats 800000 in
theorem ones_0 (w : World) : Calls Try.prog 32 #[.int .u64 0] w fun e w' => e = .returned (.int .i64 0) ∧ w = w' := by
  go_enter Try.func32, Try.ntmps32
  go_wp2
  go_ret
  exact ⟨ret_int (by decide +kernel), rfl⟩

set_option maxHeartbeats 800000 in
theorem count_k (w : World) : Calls Try.prog 25 #[.agg #[.int .u64 287948901175001088, .int .u64 541165879422, .int .u64 0, .int .u64 0]] w fun e w' => e = .returned (.int .i64 22) ∧ Below w.heap.size w w' := by
  go_enter Try.func25, Try.ntmps25
  go_wp2
  refine wp_loop_rounds 5 ?_
  rw [rounds_succ]
  go_wp2_with (go_at_call 32; refine (ones_a _).mono ?_; rintro e w' ⟨rfl, rfl⟩)
  rw [rounds_succ]
  go_wp2_with (go_at_call 32; refine (ones_b _).mono ?_; rintro e w' ⟨rfl, rfl⟩)
  rw [rounds_succ]
  go_wp2_with (go_at_call 32; refine (ones_0 _).mono ?_; rintro e w' ⟨rfl, rfl⟩)
  rw [rounds_succ]
  go_wp2_with (go_at_call 32; refine (ones_0 _).mono ?_; rintro e w' ⟨rfl, rfl⟩)
  rw [rounds_succ]
  go_wp2
  go_ret
  exact ⟨rfl, by (repeat (first | exact Below.refl _ _ | assumption | refine Below.drew ?_ | refine Below.alloc ?_ (by first | exact Nat.le_refl _ | (simp; done) | (simp; omega) | omega) _ | refine Below.setCell ?_ (by first | exact Nat.le_refl _ | (simp; done) | (simp; omega) | omega) _))⟩
theorem count_any (w : World) : Calls Try.prog 25 #[.agg #[.int .u64 digW.a, .int .u64 digW.b, .int .u64 digW.c, .int .u64 digW.d]] w fun e w' => e = .returned (.int .i64 22) ∧ Below w.heap.size w w' := by
  rw [digW_eq]
  exact count_k w
end Go.Proofs.Ytmgfhlkpmacehaa
