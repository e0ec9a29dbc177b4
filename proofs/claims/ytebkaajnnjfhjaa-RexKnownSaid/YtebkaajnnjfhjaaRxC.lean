/-
  Parse's deferred closure; Parse: walked.
-/
import Derived.Test.YtebkaajnnjfhjaaRxB
import Derived.Test.YtebkaajnnjfhjaaPlaces
namespace Go.Proofs.Ytebkaajnnjfhjaa
set_option linter.unusedVariables false
set_option linter.unusedSimpArgs false
open Go.RowKit Go.Proofs.YtebkaajnnjfhjaaW.PrintWords
open Tr (Nd Pt T R sz rootI post)

theorem rx_nil' (w : World) : (binOp BinOp.eql 20 Value.nilIface Value.nilIface).run Try.prog w = .ok (.bool true) w := by kernel_rfl
set_option maxRecDepth 100000 in
set_option maxHeartbeats 1600000 in
theorem rx_idle (p k m : Addr) (w : World) : CallsD Try.prog 11 #[.pointer (some p), .pointer (some k), .pointer (some m)] .returning w fun e u' w' => e = .returned (.tuple #[]) ∧ u' = .returning ∧ w' = w := by
  have hn := rx_nil'
  refine callsD_of_wpS Try.func11 rfl fun c₀ cs hu => ?_
  apply wpS_seq
  apply wpS_region
  simp [wpOpsS, go_sem, recoverD, hu, Try.ntmps11, Exit.thenS]
  refine wpS_of_wp ?_
  change Code.wp _ _ _ { tmps := #[.pointer (some p), .pointer (some k), .pointer (some m), undef, undef, undef, .nilIface, undef, undef, undef, undef, undef, undef, undef, undef, undef, undef], defers := [] } w
  go_wp2
  cases c₀
  simp_all [bodyPostS, results, Try.results11]
theorem rx_ta (v : Value) (w : World) : (Instr.typeAssert (.iface 43 v) 20 43 true).run Try.prog w = .ok (.tuple #[v, .bool true]) w := by kernel_rfl
theorem rx_ne (v : Value) (w : World) : (binOp BinOp.eql 20 (.iface 43 v) Value.nilIface).run Try.prog w = .ok (.bool false) w := by kernel_rfl
/-- Three result blocks. -/
def Res3 (w : World) (a : Nat) (v v' : Value) (q x : Int) : Prop := w.heap[a]? = some (.cells #[v, v'] 27 (0, 0)) ∧ w.heap[a + 1]? = some (.cells #[.int .i64 q] 3 (0, 0)) ∧ w.heap[a + 2]? = some (.cells #[.int .i64 x] 28 (0, 0))
set_option maxRecDepth 100000 in
set_option maxHeartbeats 1600000 in
theorem rx_catch (a q : Nat) (x : Int) (w : World) (v v' : Value) (q0 x0 : Int) (h : Res3 w a v v' q0 x0) : CallsD Try.prog 11 #[.pointer (some ⟨a, 0, none⟩), .pointer (some ⟨a + 1, 0, none⟩), .pointer (some ⟨a + 2, 0, none⟩)] (.panicking (flt q x)) w fun e u' w' => e = .returned (.tuple #[]) ∧ u' = .panicking [{ v := .iface 43 (.agg #[.int .i64 q, .int .i64 x]), recovered := true }] ∧ Res3 w' a (.slice none 0 0) (.slice none 0 0) q x ∧ Below a w w' := by
  refine callsD_of_wpS Try.func11 rfl fun c₀ cs hu => ?_
  apply wpS_seq
  apply wpS_region
  simp [wpOpsS, go_sem, recoverD, hu, Try.ntmps11, Exit.thenS]
  refine wpS_of_wp ?_
  change Code.wp _ _ _ { tmps := #[.pointer (some ⟨a, 0, none⟩), .pointer (some ⟨a + 1, 0, none⟩), .pointer (some ⟨a + 2, 0, none⟩), undef, undef, undef, .iface 43 (.agg #[.int .i64 q, .int .i64 x]), undef, undef, undef, undef, undef, undef, undef, undef, undef, undef], defers := [] } w
  have hta := rx_ta
  have hne := rx_ne
  obtain ⟨hA, hB, hC⟩ := h
  have a0 := blk_cell hA 0
  have a1 := blk_cell hA 1
  have b0 := blk_cell hB 0
  have k0 := blk_cell hC 0
  simp at a0 a1 b0 k0
  have fa0 := blk_frozen hA 0
  have fa1 := blk_frozen hA 1
  have fb0 := blk_frozen hB 0
  have fc0 := blk_frozen hC 0
  have la := blk_lt hC
  have HA := Lib.hid hA
  have HB := Lib.hid hB
  have HC := Lib.hid hC
  clear hA hB hC hu
  go_wp2_with fail
  obtain ⟨X, hX⟩ : ∃ X, X = w.alloc (.cells #[.int .i64 q, .int .i64 x] 43) := ⟨_, rfl⟩
  have hBX : Below w.heap.size w X := by rw [hX]; exact (Below.refl _ _).alloc (Nat.le_refl _) _
  have hbX : X.heap[w.heap.size]? = some (.cells #[.int .i64 q, .int .i64 x] 43 (0, 0)) := by rw [hX]; exact blk_new w _
  rw [← hX]
  have hA := blk_below HA.out hBX
  have hB := blk_below HB.out hBX
  have hC := blk_below HC.out hBX
  obtain ⟨fb, hfb⟩ : ∃ fb, w.heap.size = fb := ⟨_, rfl⟩
  rw [hfb] at hbX ⊢
  have hlt : a + 2 < fb := by omega
  have HBX := Lib.hid hBX
  clear a0 a1 b0 k0 fa0 fa1 fb0 fc0 hX hBX
  have a0 := blk_cell hA 0
  have a1 := blk_cell hA 1
  have b0 := blk_cell hB 0
  have k0 := blk_cell hC 0
  have q0 := blk_cell hbX 0
  have q1 := blk_cell hbX 1
  simp at a0 a1 b0 k0 q0 q1
  have fa0 := blk_frozen hA 0
  have fa1 := blk_frozen hA 1
  have fb0 := blk_frozen hB 0
  have fc0 := blk_frozen hC 0
  have HAX := Lib.hid hA
  have HBBX := Lib.hid hB
  have HCX := Lib.hid hC
  have HbX := Lib.hid hbX
  have n1 : ¬ fb = a := by omega
  have n2 : ¬ fb = a + 1 := by omega
  have n3 : ¬ fb = a + 2 := by omega
  clear hA hB hC hbX
  go_region
  refine ⟨rfl, _, rfl, .tuple #[], by simp [results, Try.results11], rfl, rfl, ⟨?_, ?_, ?_⟩, ?_⟩
  · exact blk_far (blk_far (blk_put (blk_put HAX.out 0 _ rfl) 1 _ rfl) (p := ⟨a + 1, 0, none⟩) (show a ≠ a + 1 by omega) _) (p := ⟨a + 2, 0, none⟩) (show a ≠ a + 2 by omega) _
  · exact blk_far (blk_put (blk_far (blk_far HBBX.out (p := ⟨a, 0, none⟩) (show a + 1 ≠ a by omega) _) (p := ⟨a, 1, none⟩) (show a + 1 ≠ a by omega) _) 0 _ rfl) (p := ⟨a + 2, 0, none⟩) (show a + 1 ≠ a + 2 by omega) _
  · exact blk_put (blk_far (blk_far (blk_far HCX.out (p := ⟨a, 0, none⟩) (show a + 2 ≠ a by omega) _) (p := ⟨a, 1, none⟩) (show a + 2 ≠ a by omega) _) (p := ⟨a + 1, 0, none⟩) (show a + 2 ≠ a + 1 by omega) _) 0 _ rfl
  · have h1 : Below a w X := HBX.out.mono (by omega)
    exact ((((h1.setCell (p := ⟨a, 0, none⟩) (Nat.le_refl a) _).setCell (p := ⟨a, 1, none⟩) (Nat.le_refl a) _).setCell (p := ⟨a + 1, 0, none⟩) (show a ≤ a + 1 by omega) _).setCell (p := ⟨a + 2, 0, none⟩) (show a ≤ a + 2 by omega) _).drew
end Go.Proofs.Ytebkaajnnjfhjaa
