/-
  PurseBound: what is enough is the document's, rises, is finite, and above 2 to the 99: the call returns true.
-/
import Derived.Test.YtjcjalobbgkcpaaLeft
namespace Go.Proofs.Ytjcjalobbgkcpaa
open Go.RowKit Go.Proofs.YtjcjalobbgkcpaaW.PrintWords

theorem abs_p2 : ∀ e : Fin 300, bits .andNot .u64 (p2 e.val : Int) 9223372036854775808 = (p2 e.val : Int) := by decide +kernel
set_option maxRecDepth 100000 in
theorem inf_p2 (e : Nat) (h : e ≤ 900) : FloatKind.f64.format.order (p2 e) 9218868437227405311 = some .lt := by
  have := Fl.ord_pos (p2 e) 9218868437227405311 (by unfold p2; omega) (by omega)
  show Ieee.double.order _ _ = _
  rw [this, if_pos (by unfold p2; omega)]

set_option maxRecDepth 100000 in
set_option maxHeartbeats 1600000 in
theorem pbound_any (a : Int) (ha : -9223372036854775808 ≤ a ∧ a ≤ 9223372036854775807) (b : Int) (hb : -9223372036854775808 ≤ b ∧ b ≤ 9223372036854775807) (w : World) : Calls Try.prog 5 #[.int .i64 a, .int .i64 b] w fun e w' => e = .returned (.bool true) ∧ Below w.heap.size w w' := by
  have ea := bE_le a
  have eb := bE_le b
  have o1 : FloatKind.f64.format.order (p2 (bE a)) (p2 (bE a)) = some .eq := by rw [ord_p2 _ _ (by omega) (by omega), if_neg (by omega), if_pos rfl]
  have o2 : FloatKind.f64.format.order (p2 (bE b)) (p2 (bE b)) = some .eq := by rw [ord_p2 _ _ (by omega) (by omega), if_neg (by omega), if_pos rfl]
  have o3 : FloatKind.f64.format.order (p2 (bE a)) (p2 99) = some .gt := by rw [ord_p2 _ _ (by omega) (by omega), if_neg (by omega), if_neg (by omega)]
  have HI := Lib.hid (fun w => isInf_of (p2 (bE a)) (p2 (bE a)) (abs_p2 ⟨bE a, by omega⟩) (inf_p2 _ (by omega)) w)
  have ho : b < a ∨ (¬ b < a ∧ (FloatKind.f64.format.order (p2 (bE a)) (p2 (bE b)) = some .lt ∨ FloatKind.f64.format.order (p2 (bE a)) (p2 (bE b)) = some .eq)) := by
    by_cases h : b < a
    · exact Or.inl h
    · refine Or.inr ⟨h, ?_⟩
      have : bE a ≤ bE b := by unfold bE; omega
      rw [ord_p2 _ _ (by omega) (by omega)]
      by_cases g : bE a < bE b
      · left; rw [if_pos g]
      · right; rw [if_neg g, if_pos (by omega)]
  clear ea eb
  rcases ho with ho | ⟨ho, ho' | ho'⟩
  all_goals
    go_enter Try.func5, Try.ntmps5
    go_wp2_with (first
      | (go_at_call 21; refine (bound_any _ (by omega) _).mono ?_; rintro e w1 ⟨rfl, rfl⟩)
      | (go_at_call 25; refine (rbound_any _ (by omega) _).mono ?_; rintro e w1 ⟨rfl, rfl⟩)
      | (go_at_call 19; refine (ldexp_any 99 (by omega) _).mono ?_; rintro e w1 ⟨rfl, rfl⟩)
      | (go_at_call 26; refine (HI.out _).mono ?_; rintro e w1 ⟨rfl, rfl⟩)
      | (go_at_call 22; refine (awake_any _).mono ?_; rintro e w1 ⟨rfl, HB⟩))
    go_ret
    exact ⟨rfl, HB⟩
end Go.Proofs.Ytjcjalobbgkcpaa
