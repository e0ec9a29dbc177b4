/-
  Law 06's awake: walked.
-/
import Derived.Test.YtebkaajnnjfhjaaDoorSome6
namespace Go.Proofs.YtebkaajnnjfhjaaDoor
set_option linter.unusedVariables false
set_option linter.unusedSimpArgs false
open Go.RowKit Go.Proofs.YtebkaajnnjfhjaaDoorW.PrintWords
open Tr (Nd Pt)

theorem sright (w : World) (A A' : Option Addr) (h : TreeAt w A A' someN someP) : Calls Tryd.prog 12 #[.agg #[.slice A 7 7, .slice A' 2 2]] w fun e w' => e = .returned (.bool true) ∧ Below w.heap.size w w' := by
  have := right_any 7 2 h
  rw [some_right] at this
  exact this
theorem sprint (w : World) (A A' : Option Addr) (h : TreeAt w A A' someN someP) (hL : Laid w) : Calls Tryd.prog 9 #[.agg #[.slice A 7 7, .slice A' 2 2]] w fun e w' => e = .returned (.string ⟨#[97, 98, 124, 40, 41, 38, 33, 46, 42]⟩) ∧ Below w.heap.size w w' := by
  have := print_any 7 2 some_words w h hL
  rw [some_print] at this
  exact this
theorem splaces (w : World) (A A' : Option Addr) (h : TreeAt w A A' someN someP) : Calls Tryd.prog 10 #[.agg #[.slice A 7 7, .slice A' 2 2]] w fun e w' => e = .returned (.int .i64 3) ∧ Below w.heap.size w w' := by
  have := places_any 7 2 h
  rw [some_places] at this
  exact this
theorem sdepth (w : World) (A A' : Option Addr) (h : TreeAt w A A' someN someP) : Calls Tryd.prog 11 #[.agg #[.slice A 7 7, .slice A' 2 2]] w fun e w' => e = .returned (.int .i64 3) ∧ Below w.heap.size w w' := by
  have := depth_any 7 2 h
  rw [some_depth] at this
  exact this
set_option maxRecDepth 100000 in
set_option maxHeartbeats 1600000 in
theorem awake6_any (w : World) (hL : Laid w) : Calls Tryd.prog 13 #[] w fun e w' => e = .returned (.bool true) ∧ Below w.heap.size w w' := by
  have HL := Lib.hid hL
  clear hL
  go_enter Tryd.func13, Tryd.ntmps13
  go_wp2_with fail
  refine (some_any _).mono ?_
  rintro e w1 ⟨A1, A1', rfl, T1, B1⟩
  go_wp2_with fail
  refine (sright _ _ _ T1).mono ?_
  rintro e w2 ⟨rfl, B2⟩
  have HB := bthen B1 B2
  clear B1 B2 T1
  go_wp2_with fail
  refine (some_any _).mono ?_
  rintro e w3 ⟨A3, A3', rfl, T3, B3⟩
  replace HB := bthen HB B3
  clear B3
  go_wp2_with fail
  refine (sprint _ _ _ T3 (HL.out.below HB)).mono ?_
  rintro e w4 ⟨rfl, B4⟩
  replace HB := bthen HB B4
  clear B4 T3
  go_wp2_with fail
  refine (some_any _).mono ?_
  rintro e w5 ⟨A5, A5', rfl, T5, B5⟩
  replace HB := bthen HB B5
  clear B5
  go_wp2_with fail
  refine (splaces _ _ _ T5).mono ?_
  rintro e w6 ⟨rfl, B6⟩
  replace HB := bthen HB B6
  clear B6 T5
  go_wp2_with fail
  refine (some_any _).mono ?_
  rintro e w7 ⟨A7, A7', rfl, T7, B7⟩
  replace HB := bthen HB B7
  clear B7
  go_wp2_with fail
  refine (sdepth _ _ _ T7).mono ?_
  rintro e w8 ⟨rfl, B8⟩
  replace HB := bthen HB B8
  clear B8 T7
  go_wp2_with fail
  go_ret
  exact ⟨rfl, HB⟩
end Go.Proofs.YtebkaajnnjfhjaaDoor
