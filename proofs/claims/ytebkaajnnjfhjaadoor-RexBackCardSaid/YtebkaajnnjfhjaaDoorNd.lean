/-
  tree.below, bare, may: walked.
-/
import Derived.Test.YtebkaajnnjfhjaaDoorWWords
import Derived.Test.YtebkaajnnjfhjaaDoorStr
import Derived.Test.YtebkaajnnjfhjaaDoorTT
import Derived.Test.YtebkaajnnjfhjaaDoorChecked
import Derived.Outline
import Derived.Lib.Hide
import Derived.WalkKit
import Derived.WalkLawsBesides
import Derived.WalkSpells
import Derived.BigQuiet
import Derived.Lib.Hide
namespace Go.Proofs.YtebkaajnnjfhjaaDoor
set_option linter.unusedVariables false
set_option linter.unusedSimpArgs false
open Go.RowKit Go.Proofs.YtebkaajnnjfhjaaDoorW.PrintWords
open Tr (Nd)

/-- Its numbers are such as they must be. -/
structure NdOk (n : Nd) : Prop where
  k : n.k < 256
  s : n.s.Ok
  a : -9223372036854775808 ≤ n.a ∧ n.a ≤ 9223372036854775807
  b : -9223372036854775808 ≤ n.b ∧ n.b ≤ 9223372036854775807
  mn : -9223372036854775808 ≤ n.mn ∧ n.mn ≤ 9223372036854775807
  mx : -9223372036854775808 ≤ n.mx ∧ n.mx ≤ 9223372036854775807
/-- A slice value that reads as a row of whole numbers, in a block from B on. -/
def RI (w : World) (B : Nat) (v : Value) (l : List Int) : Prop := (l = [] ∧ v = .slice none 0 0) ∨ ∃ g, v = .slice (some ⟨g, 0, none⟩) l.length l.length ∧ B ≤ g ∧ g < w.heap.size ∧ ∀ j x, l[j]? = some x → w.cell? ⟨g, j, none⟩ = some (.int .i64 x)
set_option maxHeartbeats 800000 in
theorem below_any (n : Nd) (w : World) : Calls Tryd.prog 27 #[.agg #[.int .u8 n.k, .int .u64 n.s.a, .int .u64 n.s.b, .int .u64 n.s.c, .int .u64 n.s.d, .int .i64 n.a, .int .i64 n.b, .int .i64 n.mn, .int .i64 n.mx]] w fun e w' => ∃ v, e = .returned v ∧ RI w' w.heap.size v (Tr.below n) ∧ Below w.heap.size w w' := by
  have t2 : ∀ (W' : World) (B g : Nat) (x y : Int), W'.heap.size = g → B ≤ g → RI (W'.alloc (.cells #[.int .i64 x, .int .i64 y] 3)) B (.slice (some ⟨g, 0, none⟩) 2 2) [x, y] := by
    rintro W' B g x y rfl h
    refine .inr ⟨_, rfl, h, by simp, ?_⟩
    intro j u hj
    have hb := blk_new W' (.cells #[.int .i64 x, .int .i64 y] 3)
    match j, hj with
    | 0, hj => injection hj with hj; subst hj; exact (blk_cell hb 0).trans rfl
    | 1, hj => injection hj with hj; subst hj; exact (blk_cell hb 1).trans rfl
    | (j + 2), hj => simp at hj
  have t1 : ∀ (W' : World) (B g : Nat) (x : Int), W'.heap.size = g → B ≤ g → RI (W'.alloc (.cells #[.int .i64 x] 3)) B (.slice (some ⟨g, 0, none⟩) 1 1) [x] := by
    rintro W' B g x rfl h
    refine .inr ⟨_, rfl, h, by simp, ?_⟩
    intro j u hj
    have hb := blk_new W' (.cells #[.int .i64 x] 3)
    match j, hj with
    | 0, hj => injection hj with hj; subst hj; exact (blk_cell hb 0).trans rfl
    | (j + 1), hj => simp at hj
  have T2 := Lib.hid t2
  have T1 := Lib.hid t1
  clear t1 t2
  rcases Tr.below_cases n with ⟨hk, e⟩ | ⟨hk, e⟩ | ⟨k3, k4, k5, e⟩
  · rw [e]
    clear e
    rcases hk with hk | hk
    all_goals
      simp only [hk]
      clear hk
      go_enter Tryd.func27, Tryd.ntmps27
      go_wp2_with fail
      go_ret
      exact ⟨_, rfl, T2.out _ _ (w.heap.size + 1) _ _ (by simp) (by omega), by (repeat (first | exact Below.refl _ _ | assumption | refine Below.drew ?_ | refine Below.alloc ?_ (by first | exact Nat.le_refl _ | (simp; done) | (simp; omega) | omega) _ | refine Below.setCell ?_ (by first | exact Nat.le_refl _ | (simp; done) | (simp; omega) | omega) _))⟩
  · rw [e]
    simp only [hk]
    clear e hk
    go_enter Tryd.func27, Tryd.ntmps27
    go_wp2_with fail
    go_ret
    exact ⟨_, rfl, T1.out _ _ (w.heap.size + 1) _ (by simp) (by omega), by (repeat (first | exact Below.refl _ _ | assumption | refine Below.drew ?_ | refine Below.alloc ?_ (by first | exact Nat.le_refl _ | (simp; done) | (simp; omega) | omega) _ | refine Below.setCell ?_ (by first | exact Nat.le_refl _ | (simp; done) | (simp; omega) | omega) _))⟩
  · rw [e]
    have h3 : ((n.k : Int) == 3) = false := beq_f (by omega)
    have h4 : ((n.k : Int) == 4) = false := beq_f (by omega)
    have h5 : ((n.k : Int) == 5) = false := beq_f (by omega)
    clear e k3 k4 k5
    go_enter Tryd.func27, Tryd.ntmps27
    go_wp2_with fail
    go_ret
    exact ⟨_, rfl, .inl ⟨rfl, rfl⟩, by (repeat (first | exact Below.refl _ _ | assumption | refine Below.drew ?_ | refine Below.alloc ?_ (by first | exact Nat.le_refl _ | (simp; done) | (simp; omega) | omega) _ | refine Below.setCell ?_ (by first | exact Nat.le_refl _ | (simp; done) | (simp; omega) | omega) _))⟩
end Go.Proofs.YtebkaajnnjfhjaaDoor
