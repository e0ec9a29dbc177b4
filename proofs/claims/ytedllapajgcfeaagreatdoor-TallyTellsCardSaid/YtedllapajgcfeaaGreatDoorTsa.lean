/-
  tally.Sort of any list, nil and empty ones too; both sorts have one row of ranks.
-/
import Derived.Test.YtedllapajgcfeaaGreatDoorRs5
import Derived.Test.YtedllapajgcfeaaGreatDoorOf0
namespace Go.Proofs.YtedllapajgcfeaaGreatDoor
set_option linter.unusedVariables false
set_option linter.unusedSimpArgs false
open Go.RowKit Go.Proofs.YtedllapajgcfeaaGreatDoorW.PrintWords

theorem ArgF.below {w z : World} {A : Option Addr} {l : List Nat} (h : ArgF w A l) (hb : Below w.heap.size w z) : ArgF z A l := fun hl => by
  obtain ⟨ad, e, hc⟩ := h hl
  exact ⟨ad, e, fun y hy => hc y (bthen hb hy)⟩
set_option maxRecDepth 100000 in
set_option maxHeartbeats 6400000 in
theorem tsort_zero (A : Option Addr) (c : Nat) (w : World) : Calls Tryz.prog 27 #[.slice A 0 c] w (SortOut [] w) := by
  have hmk := make_fl 0 (by omega)
  simp only [Int.natCast_zero] at hmk
  have hR : RowF [] (w.alloc (.cells (madeCells #[.float .f64 0] 0) 22)) w.heap.size [] := by
    unfold RowF
    rw [show (fl ([] : List Nat) ++ ([] : List Value)).toArray = madeCells #[Value.float .f64 0] 0 by simp [fl, madeCells]]
    exact blk_new w _
  have HS := Lib.hid (sort_any [] w.heap.size 0 [] (by decide) (fun x hx => by cases hx) _ hR)
  clear hR
  go_enter Tryz.func27, Tryz.ntmps27
  go_wp2_with fail
  go_loopw [3, 11] (fun v iv wr => v = .slice (some ⟨w.heap.size, 0, none⟩) 0 0 ∧ iv = .int .i64 0 ∧ w.alloc (.cells (madeCells #[.float .f64 0] 0) 22) = wr) (fun _ _ _ => 0)
  case atStart => exact ⟨rfl, rfl, rfl⟩
  case round =>
    obtain ⟨rfl, rfl, rfl⟩ := hrel
    go_wp2_with fail
    refine HS.out.mono ?_
    rintro e w2 ⟨rfl, HR, HX⟩
    have HR := Lib.hid HR
    have HX := Lib.hid HX
    go_wp2_with fail
    go_ret
    exact ⟨w.heap.size, 0, _, [], rfl, HR.out, List.Perm.refl _, So.nil _ _ _ (by decide), Nat.le_refl _, Nat.le_refl _, ((Below.refl _ _).alloc (Nat.le_refl _) _).trans HX.out.1⟩
/-- Sort of any at most a thousand numbers. -/
theorem tsort_all (A : Option Addr) (c : Nat) (l : List Nat) (hl : l.length ≤ 1000) (h64 : Fin64 l) (w : World) (hA : ArgF w A l) : Calls Tryz.prog 27 #[.slice A l.length c] w (SortOut l w) := by
  cases l with
  | nil => exact tsort_zero A c w
  | cons x l =>
    obtain ⟨ad, rfl, hc⟩ := hA (by simp)
    exact tsort_gen ad c (x :: l) (by simp) hl h64 w hc
theorem rk_canon (x : Nat) : rk (canon x) = rk x := by
  unfold canon
  cases h : nanB x
  · rfl
  · rw [if_pos rfl, rk_nan h]; decide +kernel
theorem SortOut.ranks {l M : List Nat} (hp : M.Perm (canonL l)) (hs : So 0 l.length M) (hl : M.length = l.length) {M2 : List Nat} (hp2 : M2.Perm l) (hs2 : M2.Pairwise Rle) : M.map rk = M2.map rk := by
  refine so_unique (so_pairwise (by rw [hl]; exact hs)) ?_ ?_
  · rw [List.pairwise_map]; exact hs2
  · have h1 := hp.map rk
    have h2 : (canonL l).map rk = l.map rk := by
      unfold canonL
      rw [List.map_map]
      exact List.map_congr_left fun x _ => rk_canon x
    rw [h2] at h1
    exact h1.trans (hp2.map rk).symm
end Go.Proofs.YtedllapajgcfeaaGreatDoor
