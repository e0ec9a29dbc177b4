/-
  tally.Of at no number, at NaN, at -0: walked.
-/
import Derived.Test.YtedllapajgcfeaaGreatDoorOf5
namespace Go.Proofs.YtedllapajgcfeaaGreatDoor
set_option linter.unusedVariables false
set_option linter.unusedSimpArgs false
open Go.RowKit Go.Proofs.YtedllapajgcfeaaGreatDoorW.PrintWords

/-- Nothing odd: the slice comes back as it is. -/
theorem del_none (T : List Value) (g cap : Nat) (L : List Nat) (hL : L.length ≤ 1000) (hO : ∀ k, k < L.length → OddOk (L.getD k 0)) (hn : ∀ k, k < L.length → oddB (L.getD k 0) = false) (w : World) (hg : RowF T w g L) : Calls Tryz.prog 26 #[.slice (some ⟨g, 0, none⟩) L.length cap, .func (.func 28) #[] #[]] w fun e w' => e = .returned (.slice (some ⟨g, 0, none⟩) L.length cap) ∧ w = w' := by
  have HI := Lib.hid (idx_any T g cap L hL hO w hg)
  have HN := Lib.hid hn
  clear hg hO hn
  go_enter Tryz.func26, Tryz.ntmps26
  go_wp2_with fail
  refine HI.out.mono ?_
  rintro e w1 ⟨r, rfl, hr, rfl⟩
  have hr0 : r = -1 := by
    rcases hr with ⟨h, _⟩ | ⟨k, hk, _, hk1, _⟩
    · exact h
    · exact absurd (hk1.symm.trans (HN.out k hk)) (by decide)
  subst hr0
  clear hr HI HN
  go_wp2_with fail
  go_ret
  exact ⟨rfl, rfl⟩
theorem one_ok (x : Nat) (h : OddOk x) : ∀ k, k < [x].length → OddOk ([x].getD k 0) := by
  intro k hk
  have : k = 0 := by simp at hk; exact hk
  subst this
  exact h
set_option maxRecDepth 100000 in
set_option maxHeartbeats 6400000 in
theorem del_nan (T : List Value) (g cap : Nat) (hcap : 1 ≤ cap) (w : World) (hg : RowF T w g [xN]) : Calls Tryz.prog 26 #[.slice (some ⟨g, 0, none⟩) 1 cap, .func (.func 28) #[] #[]] w fun e w' => ∃ cap', e = .returned (.slice (some ⟨g, 0, none⟩) 0 cap') ∧ Bx g w w' := by
  have HI := Lib.hid (idx_any T g cap [xN] (by decide) (one_ok xN (five_ok 0 (by decide))) w hg)
  have hc2 : (1 : Int) ≤ cap := by omega
  have hc3 : ¬ cap = 0 := by omega
  have c0 := hg.cell 0 (by decide)
  have f0 := blk_frozen hg 0
  have hclr : ∀ c, (Builtin.clear_ #[32] 0 #[.slice (some ⟨g, 0, none⟩) 1 c]).run Tryz.prog w = .ok (.tuple #[]) (w.setCell ⟨g, 0, none⟩ (.float .f64 0)) := fun c =>
    Go.Lib.run_clear_slice w 32 22 0 (.float .f64 0) Tryz.underlying32 Tryz.zeroValue22 rfl rfl g 0 1 c (by decide) (fun j hj => by
      obtain rfl : j = 0 := by omega
      show (w.cell? ⟨g, 0, none⟩).isSome = true; rw [c0]; rfl) (fun j hj => by
      obtain rfl : j = 0 := by omega
      exact f0)
  have HX3 := Lib.hid ((Bx.refl g w).set 0 (.float .f64 0))
  clear c0 f0 hg
  go_enter Tryz.func26, Tryz.ntmps26
  go_wp2_with fail
  refine HI.out.mono ?_
  rintro e w1 ⟨r, rfl, hr, rfl⟩
  have hr0 : r = 0 := by
    rcases hr with ⟨_, h⟩ | ⟨k, hk, rfl, hk1, hall⟩
    · have := h 0 (by decide)
      exact absurd (odN.symm.trans this) (by decide)
    · have : k = 0 := by simp at hk; exact hk
      rw [this]; rfl
  subst hr0
  clear hr HI
  generalize w.setCell ⟨g, 0, none⟩ (.float .f64 0) = z4 at *
  go_wp2_with fail
  go_loopw [5, 6] (fun iv jv wr => iv = .int .i64 0 ∧ jv = .int .i64 1 ∧ w = wr) (fun _ _ _ => 0)
  case atStart => exact ⟨rfl, rfl, rfl⟩
  case round =>
    obtain ⟨rfl, rfl, rfl⟩ := hrel
    go_wp2_with fail
    go_ret
    exact ⟨_, rfl, HX3.out⟩
set_option maxRecDepth 100000 in
set_option maxHeartbeats 6400000 in
theorem tsort_nil (w : World) : Calls Tryz.prog 27 #[.slice none 0 0] w fun e w' => ∃ g, e = .returned (.slice (some ⟨g, 0, none⟩) 0 0) ∧ RowF [] w' g [] ∧ w.heap.size ≤ g ∧ Below w.heap.size w w' := by
  have hmk := make_fl 0 (by omega)
  simp only [Int.natCast_zero] at hmk
  have hR : RowF [] (w.alloc (.cells (madeCells #[.float .f64 0] 0) 22)) w.heap.size [] := by
    unfold RowF
    rw [show (fl ([] : List Nat) ++ ([] : List Value)).toArray = madeCells #[Value.float .f64 0] 0 by simp [fl, madeCells]]
    exact blk_new w _
  have HS := Lib.hid (sort_any [] w.heap.size 0 [] (by decide) (fun x hx => by cases hx) _ hR)
  clear hR
  go_enter Tryz.func27, Tryz.ntmps27
  go_wp2_with fail
  go_loopw [3, 11] (fun v iv wr => v = .slice (some ⟨w.heap.size, 0, none⟩) 0 0 ∧ iv = .int .i64 0 ∧ w.alloc (.cells (madeCells #[.float .f64 0] 0) 22) = wr) (fun _ _ _ => 0)
  case atStart => exact ⟨rfl, rfl, rfl⟩
  case round =>
    obtain ⟨rfl, rfl, rfl⟩ := hrel
    go_wp2_with fail
    refine HS.out.mono ?_
    rintro e w2 ⟨rfl, HR, HX⟩
    have HR := Lib.hid HR
    have HX := Lib.hid HX
    go_wp2_with fail
    go_ret
    exact ⟨_, rfl, HR.out, Nat.le_refl _, ((Below.refl _ _).alloc (Nat.le_refl _) _).trans HX.out.1⟩
end Go.Proofs.YtedllapajgcfeaaGreatDoor
