/-
  Left of a budget above zero: what is left as a float64 word.
-/
import Derived.Test.YtjcjalobbgkcpaaLeft
import Derived.Test.YtjcjalobbgkcpaaOrd
namespace Go.Proofs.Ytjcjalobbgkcpaa
open Go.RowKit Go.Proofs.YtjcjalobbgkcpaaW.PrintWords

theorem run_archMax (x y r : Nat) (h : Extern.MathDim.pick "math.archMax" false .gt #[.float .f64 x, .float .f64 y] = pure (.float .f64 r)) (w : World) : (callFunc 43 #[.float .f64 x, .float .f64 y]).run Try.prog w = .ok (.value (.float .f64 r)) w := by
  rw [run_callFunc_extern Try.func43 (by kernel_rfl) (by kernel_rfl) (by kernel_rfl) (e := Extern.MathDim.pick "math.archMax" false .gt) (by kernel_rfl), h]
  rfl
theorem max_of (x y r : Nat) (h : Extern.MathDim.pick "math.archMax" false .gt #[.float .f64 x, .float .f64 y] = pure (.float .f64 r)) (w : World) : Calls Try.prog 33 #[.float .f64 x, .float .f64 y] w fun e w' => e = .returned (.float .f64 r) ∧ w = w' := by
  have hf := fun w => run_archMax x y r h w
  clear h
  go_enter Try.func33, Try.ntmps33
  go_wp2
  go_ret
  exact ⟨rfl, rfl⟩
set_option maxHeartbeats 1600000 in
theorem left_of (g b s y r : Nat) (w : World) (K : PB w g b s) (hov : ¬ Fl.aff b < s) (h0 : Ieee.double.order b 0 = some .gt) (hn : ¬ Fl.Nan b) (h1 : Ieee.double.sub (flo b) (floatOfInt .f64 s) = some y) (h2 : Extern.MathDim.pick "math.archMax" false .gt #[.float .f64 0, .float .f64 y] = pure (.float .f64 r)) :
    Calls Try.prog 11 #[.pointer (some ⟨g, 0, none⟩)] w fun e w' => e = .returned (.float .f64 r) ∧ ∃ n, w' = w.drewN n := by
  have c0 := blk_cell K 0
  have c1 := blk_cell K 1
  simp at c0 c1
  have h3 : FloatKind.f64.format.order b 0 = some .gt := h0
  have h4 := fun w => run_float_arith (P := Try.prog) w .sub 24 .f64 (flo b) (floatOfInt .f64 s) y h1
  have HF := Lib.hid (fun w => floor_any b hn w)
  have HM := Lib.hid (fun w => max_of 0 y r h2 w)
  have HV := Lib.hid hov
  have KK := Lib.hid K
  clear K hov h0 h1 h2 hn
  go_enter Try.func11, Try.ntmps11
  go_wp2_with fail
  refine (over_any g b s _ KK.out).mono ?_
  rw [decide_eq_false HV.out]
  rintro e w1 ⟨rfl, m, rfl⟩
  go_wp2_with fail
  have KW : PB (w.drewN m) g b s := KK.out
  clear c0 c1
  generalize hW : w.drewN m = W at KW ⊢
  have HW := Lib.hid hW
  have c0 := blk_cell KW 0
  have c1 := blk_cell KW 1
  simp at c0 c1
  clear hW KW
  go_quiet (first | (go_at_call 29; exact Calls.quiet_of_same ((HF.out _).mono fun _ _ h => ⟨h.1, h.2.symm⟩)) | (go_at_call 33; exact Calls.quiet_of_same ((HM.out _).mono fun _ _ h => ⟨h.1, h.2.symm⟩)))
  go_wp2_with fail
  go_ret
  exact ⟨rfl, _, by rw [← HW.out, World.drewN_drewN]⟩
end Go.Proofs.Ytjcjalobbgkcpaa
