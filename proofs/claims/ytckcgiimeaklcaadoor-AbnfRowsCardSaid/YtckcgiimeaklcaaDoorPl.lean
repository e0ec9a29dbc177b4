/-
  Places: has, add, or: walked.
-/
import Derived.Test.YtckcgiimeaklcaaDoorAxG
import Derived.Test.YtckcgiimeaklcaaDoorDv
namespace Go.Proofs.YtckcgiimeaklcaaDoor
set_option linter.unusedVariables false
set_option linter.unusedSimpArgs false
open Go.RowKit Go.Proofs.YtckcgiimeaklcaaDoorW.PrintWords

theorem pl_bit (x k : Nat) (hx : x < 18446744073709551616) : (bits BinOp.and IntKind.u64 ((x : Int) / 2 ^ k) 1 == 1) = x.testBit k := by
  have e : ((x : Int) / 2 ^ k) = ((x / 2 ^ k : Nat) : Int) := by rw [Int.natCast_ediv]; simp
  have e1 : (1 : Int) = ((1 : Nat) : Int) := rfl
  have hle : x / 2 ^ k ≤ x := Nat.div_le_self _ _
  rw [e, e1, u64_and_nat _ _ (by omega) (by decide), Nat.and_one_is_mod, Nat.testBit_eq_decide_div_mod_eq]
  by_cases h : x / 2 ^ k % 2 = 1
  · rw [h]; simp
  · simp only [h, decide_false, beq_eq_false_iff_ne]
    omega
theorem W2.has_lo {s : W2} {i : Nat} (h : i / 64 = 0) : s.has i = s.a.testBit (i % 64) := by
  have : i < 128 := by omega
  simp [W2.has, W2.word, h, this]
theorem W2.has_hi {s : W2} {i : Nat} (h : i / 64 = 1) : s.has i = s.b.testBit (i % 64) := by
  have : i < 128 := by omega
  simp [W2.has, W2.word, h, this]
set_option maxRecDepth 100000 in
set_option maxHeartbeats 800000 in
theorem phas_any (s : W2) (hs : s.Ok) (g o i : Nat) (hi : i < 128) (w : World) (h0 : w.cell? ⟨g, o, none⟩ = some (.int .u64 s.a)) (h1 : w.cell? ⟨g, o + 1, none⟩ = some (.int .u64 s.b)) :
    Calls Tryd.prog 14 #[.pointer (some ⟨g, o, none⟩), .int .i64 i] w fun e w' => e = .returned (.bool (s.has i)) ∧ w' = w := by
  have hq : i / 64 = 0 ∨ i / 64 = 1 := by omega
  rcases hq with hq | hq
  · have HE := Lib.hid (W2.has_lo (s := s) hq)
    have HB := Lib.hid (pl_bit s.a (i % 64) hs.1)
    go_enter Tryd.func14, Tryd.ntmps14
    go_wp2_with fail
    go_ret
    rw [HE.out, ← HB.out]
    exact ⟨rfl, rfl⟩
  · have HE := Lib.hid (W2.has_hi (s := s) hq)
    have HB := Lib.hid (pl_bit s.b (i % 64) hs.2)
    go_enter Tryd.func14, Tryd.ntmps14
    go_wp2_with fail
    go_ret
    rw [HE.out, ← HB.out]
    exact ⟨rfl, rfl⟩
/-- Places in a block of their own. -/
def PAt (W : World) (g : Nat) (s : W2) : Prop := W.heap[g]? = some (.cells #[.int .u64 s.a, .int .u64 s.b] 53 (0, 0))
theorem PAt.cells {W : World} {g : Nat} {s : W2} (h : PAt W g s) : W.cell? ⟨g, 0, none⟩ = some (.int .u64 s.a) ∧ W.cell? ⟨g, 1, none⟩ = some (.int .u64 s.b) := ⟨(blk_cell h 0).trans rfl, (blk_cell h 1).trans rfl⟩
theorem pl_wrap (i : Nat) : IntKind.u64.wrap ((2 : Int) ^ (i % 64)) = (W2.bit i : Int) := by
  have h := W2.bit_lt i
  have e : ((2 : Int) ^ (i % 64)) = (W2.bit i : Int) := by simp [W2.bit]
  rw [e]
  exact IntWalk.u64_in _ (by omega)
theorem grown_set {w : World} {p : Addr} (v : Value) : w.grownBy (w.setCell p v) (some p.block) := ⟨rfl, rfl, rfl, by simp, fun k hk hn => Below.heap_setCell w p v k (fun e => hn (by rw [e]))⟩
theorem grown_drew {w w' : World} {row : Option Nat} (h : w.grownBy w' row) : w.grownBy w'.drew row := ⟨h.os, h.tape, h.output, h.size, h.block⟩
set_option maxRecDepth 100000 in
set_option maxHeartbeats 1600000 in
theorem padd_any (s : W2) (hs : s.Ok) (g i : Nat) (hi : i < 128) (w : World) (h : PAt w g s) :
    Calls Tryd.prog 29 #[.pointer (some ⟨g, 0, none⟩), .int .i64 i] w fun e w' => e = .returned (.tuple #[]) ∧ PAt w' g (s.put i) ∧ w.grownBy w' (some g) := by
  obtain ⟨c0, c1⟩ := h.cells
  have f0 := blk_frozen h 0
  have f1 := blk_frozen h 1
  have HP := Lib.hid h
  have hw := pl_wrap i
  have hq : i / 64 = 0 ∨ i / 64 = 1 := by omega
  clear h
  rcases hq with hq | hq
  · have HE : Hid (s.put i = ⟨s.a ||| W2.bit i, s.b⟩) := Lib.hid (by unfold W2.put; rw [if_pos hq])
    have HB := Lib.hid (u64_or_nat s.a (W2.bit i) hs.1 (W2.bit_lt i))
    go_enter Tryd.func29, Tryd.ntmps29
    go_wp2_with fail
    go_region
    simp only [HB.out]
    go_end0
    rw [HE.out]
    exact ⟨rfl, blk_put HP.out 0 (.int .u64 ((s.a ||| W2.bit i : Nat) : Int)) rfl, grown_drew (grown_set (p := ⟨g, 0, none⟩) _)⟩
  · have HE : Hid (s.put i = ⟨s.a, s.b ||| W2.bit i⟩) := Lib.hid (by unfold W2.put; rw [if_neg (by omega)])
    have HB := Lib.hid (u64_or_nat s.b (W2.bit i) hs.2 (W2.bit_lt i))
    go_enter Tryd.func29, Tryd.ntmps29
    go_wp2_with fail
    go_region
    simp only [HB.out]
    go_end0
    rw [HE.out]
    exact ⟨rfl, blk_put HP.out 1 (.int .u64 ((s.b ||| W2.bit i : Nat) : Int)) rfl, grown_drew (grown_set (p := ⟨g, 1, none⟩) _)⟩
set_option maxRecDepth 100000 in
set_option maxHeartbeats 1600000 in
theorem por_any (s t : W2) (hs : s.Ok) (ht : t.Ok) (g g2 o : Nat) (hne : g ≠ g2) (w : World) (h : PAt w g s) (h0 : w.cell? ⟨g2, o, none⟩ = some (.int .u64 t.a)) (h1 : w.cell? ⟨g2, o + 1, none⟩ = some (.int .u64 t.b)) :
    Calls Tryd.prog 31 #[.pointer (some ⟨g, 0, none⟩), .pointer (some ⟨g2, o, none⟩)] w fun e w' => e = .returned (.tuple #[]) ∧ PAt w' g (s.or t) ∧ w.grownBy w' (some g) := by
  obtain ⟨c0, c1⟩ := h.cells
  have f0 := blk_frozen h 0
  have f1 := blk_frozen h 1
  have HP := Lib.hid h
  have HA := Lib.hid (u64_or_nat s.a t.a hs.1 ht.1)
  have HB := Lib.hid (u64_or_nat s.b t.b hs.2 ht.2)
  have hne2 : ¬ g2 = g := fun e => hne e.symm
  clear h
  go_enter Tryd.func31, Tryd.ntmps31
  go_wp2_with fail
  refine wp_loop_rounds 3 ?_
  rw [rounds_succ]
  go_wp2_with fail
  go_region
  go_wp2_with fail
  rw [rounds_succ]
  go_wp2_with fail
  go_region
  go_wp2_with fail
  rw [rounds_succ]
  go_wp2_with fail
  simp only [HA.out, HB.out]
  go_end0
  exact ⟨rfl, blk_put (blk_put HP.out 0 (.int .u64 ((s.a ||| t.a : Nat) : Int)) rfl) 1 (.int .u64 ((s.b ||| t.b : Nat) : Int)) rfl, grown_drew (grown_drew (World.grownBy.trans (grown_set (p := ⟨g, 0, none⟩) _) (grown_set (p := ⟨g, 1, none⟩) _)))⟩
end Go.Proofs.YtckcgiimeaklcaaDoor
