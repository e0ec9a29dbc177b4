/-
  Law 05's TallyTotal: walked.
-/
import Derived.Test.YtedllapajgcfeaaDoorTot
namespace Go.Proofs.YtedllapajgcfeaaDoor
set_option linter.unusedVariables false
set_option linter.unusedSimpArgs false
open Go.RowKit Go.Proofs.YtedllapajgcfeaaDoorW.PrintWords

set_option maxRecDepth 100000 in
set_option maxHeartbeats 25600000 in
theorem total_any (a b c : Nat) (ha : a < 18446744073709551616) (hb : b < 18446744073709551616) (hc : c < 18446744073709551616) (w : World) (hT : Tb w) : Calls Tryd.prog 5 #[.float .f64 a, .float .f64 b, .float .f64 c] w fun e w' => e = .returned (.bool true) ∧ Below w.heap.size w w' := by
  have HT := Lib.hid hT
  have HA := Lib.hid (fun z (h : Tb z) => awake5_any z h)
  have HIU := Lib.hid inf_up
  have HID := Lib.hid inf_down
  have HAB : Hid (∀ z, Calls Tryd.prog 12 #[.float .f64 a, .float .f64 b] z fun e w' => e = .returned (.int .i64 (cp a b)) ∧ Below z.heap.size z w') := Lib.hid fun z => compare_any a b ha hb z
  have HBA : Hid (∀ z, Calls Tryd.prog 12 #[.float .f64 b, .float .f64 a] z fun e w' => e = .returned (.int .i64 (cp b a)) ∧ Below z.heap.size z w') := Lib.hid fun z => compare_any b a hb ha z
  have HAA : Hid (∀ z, Calls Tryd.prog 12 #[.float .f64 a, .float .f64 a] z fun e w' => e = .returned (.int .i64 (0)) ∧ Below z.heap.size z w') := Lib.hid fun z => by have := compare_any a a ha ha z; rw [cp_self] at this; exact this
  have HBC : Hid (∀ z, Calls Tryd.prog 12 #[.float .f64 b, .float .f64 c] z fun e w' => e = .returned (.int .i64 (cp b c)) ∧ Below z.heap.size z w') := Lib.hid fun z => compare_any b c hb hc z
  have HAC : Hid (∀ z, Calls Tryd.prog 12 #[.float .f64 a, .float .f64 c] z fun e w' => e = .returned (.int .i64 (cp a c)) ∧ Below z.heap.size z w') := Lib.hid fun z => compare_any a c ha hc z
  have HNA : Hid (∀ z, Calls Tryd.prog 12 #[.float .f64 9221120237041090561, .float .f64 a] z fun e w' => e = .returned (.int .i64 (cp 9221120237041090561 a)) ∧ Below z.heap.size z w') := Lib.hid fun z => compare_any 9221120237041090561 a (by decide) ha z
  have HAI : Hid (∀ z, Calls Tryd.prog 12 #[.float .f64 a, .float .f64 9218868437227405312] z fun e w' => e = .returned (.int .i64 (cp a 9218868437227405312)) ∧ Below z.heap.size z w') := Lib.hid fun z => compare_any a 9218868437227405312 ha (by decide) z
  have HAM : Hid (∀ z, Calls Tryd.prog 12 #[.float .f64 a, .float .f64 18442240474082181120] z fun e w' => e = .returned (.int .i64 (cp a 18442240474082181120)) ∧ Below z.heap.size z w') := Lib.hid fun z => compare_any a 18442240474082181120 ha (by decide) z
  have n1 := cp_le (rk_nan_down a)
  have n2 := cp_le (rk_inf_up a)
  have n3 := fun h : nanB a = false => cp_ge (rk_inf_down h)
  have htr := cp_trans a b c
  have hw := total_ways a b ha hb
  clear ha hb hc hT
  generalize cp 9221120237041090561 a = u1 at HNA n1
  generalize cp a 9218868437227405312 = u2 at HAI n2
  generalize cp a 18442240474082181120 = u3 at HAM n3
  generalize cp b c = s at HBC htr
  generalize cp a c = t at HAC htr
  generalize cp a b = p at HAB htr hw
  generalize cp b a = q at HBA hw
  have d1 : decide (0 < u1) = false := decide_eq_false (by omega)
  have d2 : decide (0 < u2) = false := decide_eq_false (by omega)
  have d3 : nanB a = false → decide (u3 < 0) = false := fun h => decide_eq_false (by have := n3 h; omega)
  clear n1 n2 n3
  have HB := Below.refl w.heap.size w
  have hs : (decide (s ≤ 0) = true ∧ s ≤ 0) ∨ (decide (s ≤ 0) = false ∧ ¬ s ≤ 0) := by
    by_cases h : s ≤ 0
    · exact Or.inl ⟨decide_eq_true h, h⟩
    · exact Or.inr ⟨decide_eq_false h, h⟩
  rcases hw with ⟨na, nb, oa, ob, oc, rfl, rfl⟩ | ⟨na, oa, ob, oc, rfl, rfl, be⟩ | ⟨na, oa, ob, oc, rfl, rfl, be⟩ | ⟨na, oa, ob, oc, rfl, rfl, be⟩ | ⟨na, oa, ob, oc, rfl, rfl, be⟩ | ⟨na, oa, ob, oc, rfl, rfl, be⟩ | ⟨na, oa, ob, oc, rfl, rfl, be⟩ | ⟨na, oa, ob, oc, rfl, rfl, be⟩
  · have dbe : ((a : Int) == (b : Int)) = true ∨ ((a : Int) == (b : Int)) = false := by cases ((a : Int) == (b : Int)) <;> first | exact Or.inl rfl | exact Or.inr rfl
    clear na nb d3
    rcases hs with ⟨ds, hs⟩ | ⟨ds, hs⟩
    · have dt : decide (0 < t) = false := decide_eq_false (by have := htr (by decide) hs; omega)
      clear hs htr
      rcases dbe with be | be
      all_goals
        go_enter Tryd.func5, Tryd.ntmps5
        go_wp2_with (first | (go_at_call 12; first | ((with_reducible refine (HAB.out _).mono ?_); rintro e w1 ⟨rfl, B1⟩; replace HB := bthen HB B1; clear B1) | ((with_reducible refine (HBA.out _).mono ?_); rintro e w2 ⟨rfl, B2⟩; replace HB := bthen HB B2; clear B2) | ((with_reducible refine (HAA.out _).mono ?_); rintro e w3 ⟨rfl, B3⟩; replace HB := bthen HB B3; clear B3) | ((with_reducible refine (HBC.out _).mono ?_); rintro e w4 ⟨rfl, B4⟩; replace HB := bthen HB B4; clear B4) | ((with_reducible refine (HAC.out _).mono ?_); rintro e w5 ⟨rfl, B5⟩; replace HB := bthen HB B5; clear B5) | ((with_reducible refine (HNA.out _).mono ?_); rintro e w6 ⟨rfl, B6⟩; replace HB := bthen HB B6; clear B6) | ((with_reducible refine (HAI.out _).mono ?_); rintro e w7 ⟨rfl, B7⟩; replace HB := bthen HB B7; clear B7) | ((with_reducible refine (HAM.out _).mono ?_); rintro e w8 ⟨rfl, B8⟩; replace HB := bthen HB B8; clear B8)) | (go_at_call 17; refine (nan_any _).mono ?_; rintro e w9 ⟨rfl, rfl⟩) | (go_at_call 18; first | ((with_reducible refine (HIU.out _).mono ?_); rintro e w9 ⟨rfl, rfl⟩) | ((with_reducible refine (HID.out _).mono ?_); rintro e w9 ⟨rfl, rfl⟩)) | (go_at_call 7; (with_reducible refine (HA.out _ ?_).mono ?_); (focus (exact HT.out.below HB; done)); rintro e w10 ⟨rfl, B10⟩; replace HB := bthen HB B10; clear B10))
        go_ret
        exact ⟨rfl, HB⟩
    · clear hs htr
      rcases dbe with be | be
      all_goals
        go_enter Tryd.func5, Tryd.ntmps5
        go_wp2_with (first | (go_at_call 12; first | ((with_reducible refine (HAB.out _).mono ?_); rintro e w1 ⟨rfl, B1⟩; replace HB := bthen HB B1; clear B1) | ((with_reducible refine (HBA.out _).mono ?_); rintro e w2 ⟨rfl, B2⟩; replace HB := bthen HB B2; clear B2) | ((with_reducible refine (HAA.out _).mono ?_); rintro e w3 ⟨rfl, B3⟩; replace HB := bthen HB B3; clear B3) | ((with_reducible refine (HBC.out _).mono ?_); rintro e w4 ⟨rfl, B4⟩; replace HB := bthen HB B4; clear B4) | ((with_reducible refine (HAC.out _).mono ?_); rintro e w5 ⟨rfl, B5⟩; replace HB := bthen HB B5; clear B5) | ((with_reducible refine (HNA.out _).mono ?_); rintro e w6 ⟨rfl, B6⟩; replace HB := bthen HB B6; clear B6) | ((with_reducible refine (HAI.out _).mono ?_); rintro e w7 ⟨rfl, B7⟩; replace HB := bthen HB B7; clear B7) | ((with_reducible refine (HAM.out _).mono ?_); rintro e w8 ⟨rfl, B8⟩; replace HB := bthen HB B8; clear B8)) | (go_at_call 17; refine (nan_any _).mono ?_; rintro e w9 ⟨rfl, rfl⟩) | (go_at_call 18; first | ((with_reducible refine (HIU.out _).mono ?_); rintro e w9 ⟨rfl, rfl⟩) | ((with_reducible refine (HID.out _).mono ?_); rintro e w9 ⟨rfl, rfl⟩)) | (go_at_call 7; (with_reducible refine (HA.out _ ?_).mono ?_); (focus (exact HT.out.below HB; done)); rintro e w10 ⟨rfl, B10⟩; replace HB := bthen HB B10; clear B10))
        go_ret
        exact ⟨rfl, HB⟩
  · clear na d3
    rcases hs with ⟨ds, hs⟩ | ⟨ds, hs⟩
    · have dt : decide (0 < t) = false := decide_eq_false (by have := htr (by decide) hs; omega)
      clear hs htr
      go_enter Tryd.func5, Tryd.ntmps5
      go_wp2_with (first | (go_at_call 12; first | ((with_reducible refine (HAB.out _).mono ?_); rintro e w1 ⟨rfl, B1⟩; replace HB := bthen HB B1; clear B1) | ((with_reducible refine (HBA.out _).mono ?_); rintro e w2 ⟨rfl, B2⟩; replace HB := bthen HB B2; clear B2) | ((with_reducible refine (HAA.out _).mono ?_); rintro e w3 ⟨rfl, B3⟩; replace HB := bthen HB B3; clear B3) | ((with_reducible refine (HBC.out _).mono ?_); rintro e w4 ⟨rfl, B4⟩; replace HB := bthen HB B4; clear B4) | ((with_reducible refine (HAC.out _).mono ?_); rintro e w5 ⟨rfl, B5⟩; replace HB := bthen HB B5; clear B5) | ((with_reducible refine (HNA.out _).mono ?_); rintro e w6 ⟨rfl, B6⟩; replace HB := bthen HB B6; clear B6) | ((with_reducible refine (HAI.out _).mono ?_); rintro e w7 ⟨rfl, B7⟩; replace HB := bthen HB B7; clear B7) | ((with_reducible refine (HAM.out _).mono ?_); rintro e w8 ⟨rfl, B8⟩; replace HB := bthen HB B8; clear B8)) | (go_at_call 17; refine (nan_any _).mono ?_; rintro e w9 ⟨rfl, rfl⟩) | (go_at_call 18; first | ((with_reducible refine (HIU.out _).mono ?_); rintro e w9 ⟨rfl, rfl⟩) | ((with_reducible refine (HID.out _).mono ?_); rintro e w9 ⟨rfl, rfl⟩)) | (go_at_call 7; (with_reducible refine (HA.out _ ?_).mono ?_); (focus (exact HT.out.below HB; done)); rintro e w10 ⟨rfl, B10⟩; replace HB := bthen HB B10; clear B10))
      go_ret
      exact ⟨rfl, HB⟩
    · clear hs htr
      go_enter Tryd.func5, Tryd.ntmps5
      go_wp2_with (first | (go_at_call 12; first | ((with_reducible refine (HAB.out _).mono ?_); rintro e w1 ⟨rfl, B1⟩; replace HB := bthen HB B1; clear B1) | ((with_reducible refine (HBA.out _).mono ?_); rintro e w2 ⟨rfl, B2⟩; replace HB := bthen HB B2; clear B2) | ((with_reducible refine (HAA.out _).mono ?_); rintro e w3 ⟨rfl, B3⟩; replace HB := bthen HB B3; clear B3) | ((with_reducible refine (HBC.out _).mono ?_); rintro e w4 ⟨rfl, B4⟩; replace HB := bthen HB B4; clear B4) | ((with_reducible refine (HAC.out _).mono ?_); rintro e w5 ⟨rfl, B5⟩; replace HB := bthen HB B5; clear B5) | ((with_reducible refine (HNA.out _).mono ?_); rintro e w6 ⟨rfl, B6⟩; replace HB := bthen HB B6; clear B6) | ((with_reducible refine (HAI.out _).mono ?_); rintro e w7 ⟨rfl, B7⟩; replace HB := bthen HB B7; clear B7) | ((with_reducible refine (HAM.out _).mono ?_); rintro e w8 ⟨rfl, B8⟩; replace HB := bthen HB B8; clear B8)) | (go_at_call 17; refine (nan_any _).mono ?_; rintro e w9 ⟨rfl, rfl⟩) | (go_at_call 18; first | ((with_reducible refine (HIU.out _).mono ?_); rintro e w9 ⟨rfl, rfl⟩) | ((with_reducible refine (HID.out _).mono ?_); rintro e w9 ⟨rfl, rfl⟩)) | (go_at_call 7; (with_reducible refine (HA.out _ ?_).mono ?_); (focus (exact HT.out.below HB; done)); rintro e w10 ⟨rfl, B10⟩; replace HB := bthen HB B10; clear B10))
      go_ret
      exact ⟨rfl, HB⟩
  · have d4 := d3 na
    clear na d3
    clear hs htr
    go_enter Tryd.func5, Tryd.ntmps5
    go_wp2_with (first | (go_at_call 12; first | ((with_reducible refine (HAB.out _).mono ?_); rintro e w1 ⟨rfl, B1⟩; replace HB := bthen HB B1; clear B1) | ((with_reducible refine (HBA.out _).mono ?_); rintro e w2 ⟨rfl, B2⟩; replace HB := bthen HB B2; clear B2) | ((with_reducible refine (HAA.out _).mono ?_); rintro e w3 ⟨rfl, B3⟩; replace HB := bthen HB B3; clear B3) | ((with_reducible refine (HBC.out _).mono ?_); rintro e w4 ⟨rfl, B4⟩; replace HB := bthen HB B4; clear B4) | ((with_reducible refine (HAC.out _).mono ?_); rintro e w5 ⟨rfl, B5⟩; replace HB := bthen HB B5; clear B5) | ((with_reducible refine (HNA.out _).mono ?_); rintro e w6 ⟨rfl, B6⟩; replace HB := bthen HB B6; clear B6) | ((with_reducible refine (HAI.out _).mono ?_); rintro e w7 ⟨rfl, B7⟩; replace HB := bthen HB B7; clear B7) | ((with_reducible refine (HAM.out _).mono ?_); rintro e w8 ⟨rfl, B8⟩; replace HB := bthen HB B8; clear B8)) | (go_at_call 17; refine (nan_any _).mono ?_; rintro e w9 ⟨rfl, rfl⟩) | (go_at_call 18; first | ((with_reducible refine (HIU.out _).mono ?_); rintro e w9 ⟨rfl, rfl⟩) | ((with_reducible refine (HID.out _).mono ?_); rintro e w9 ⟨rfl, rfl⟩)) | (go_at_call 7; (with_reducible refine (HA.out _ ?_).mono ?_); (focus (exact HT.out.below HB; done)); rintro e w10 ⟨rfl, B10⟩; replace HB := bthen HB B10; clear B10))
    go_ret
    exact ⟨rfl, HB⟩
  · have d4 := d3 na
    clear na d3
    rcases hs with ⟨ds, hs⟩ | ⟨ds, hs⟩
    · have dt : decide (0 < t) = false := decide_eq_false (by have := htr (by decide) hs; omega)
      clear hs htr
      go_enter Tryd.func5, Tryd.ntmps5
      go_wp2_with (first | (go_at_call 12; first | ((with_reducible refine (HAB.out _).mono ?_); rintro e w1 ⟨rfl, B1⟩; replace HB := bthen HB B1; clear B1) | ((with_reducible refine (HBA.out _).mono ?_); rintro e w2 ⟨rfl, B2⟩; replace HB := bthen HB B2; clear B2) | ((with_reducible refine (HAA.out _).mono ?_); rintro e w3 ⟨rfl, B3⟩; replace HB := bthen HB B3; clear B3) | ((with_reducible refine (HBC.out _).mono ?_); rintro e w4 ⟨rfl, B4⟩; replace HB := bthen HB B4; clear B4) | ((with_reducible refine (HAC.out _).mono ?_); rintro e w5 ⟨rfl, B5⟩; replace HB := bthen HB B5; clear B5) | ((with_reducible refine (HNA.out _).mono ?_); rintro e w6 ⟨rfl, B6⟩; replace HB := bthen HB B6; clear B6) | ((with_reducible refine (HAI.out _).mono ?_); rintro e w7 ⟨rfl, B7⟩; replace HB := bthen HB B7; clear B7) | ((with_reducible refine (HAM.out _).mono ?_); rintro e w8 ⟨rfl, B8⟩; replace HB := bthen HB B8; clear B8)) | (go_at_call 17; refine (nan_any _).mono ?_; rintro e w9 ⟨rfl, rfl⟩) | (go_at_call 18; first | ((with_reducible refine (HIU.out _).mono ?_); rintro e w9 ⟨rfl, rfl⟩) | ((with_reducible refine (HID.out _).mono ?_); rintro e w9 ⟨rfl, rfl⟩)) | (go_at_call 7; (with_reducible refine (HA.out _ ?_).mono ?_); (focus (exact HT.out.below HB; done)); rintro e w10 ⟨rfl, B10⟩; replace HB := bthen HB B10; clear B10))
      go_ret
      exact ⟨rfl, HB⟩
    · clear hs htr
      go_enter Tryd.func5, Tryd.ntmps5
      go_wp2_with (first | (go_at_call 12; first | ((with_reducible refine (HAB.out _).mono ?_); rintro e w1 ⟨rfl, B1⟩; replace HB := bthen HB B1; clear B1) | ((with_reducible refine (HBA.out _).mono ?_); rintro e w2 ⟨rfl, B2⟩; replace HB := bthen HB B2; clear B2) | ((with_reducible refine (HAA.out _).mono ?_); rintro e w3 ⟨rfl, B3⟩; replace HB := bthen HB B3; clear B3) | ((with_reducible refine (HBC.out _).mono ?_); rintro e w4 ⟨rfl, B4⟩; replace HB := bthen HB B4; clear B4) | ((with_reducible refine (HAC.out _).mono ?_); rintro e w5 ⟨rfl, B5⟩; replace HB := bthen HB B5; clear B5) | ((with_reducible refine (HNA.out _).mono ?_); rintro e w6 ⟨rfl, B6⟩; replace HB := bthen HB B6; clear B6) | ((with_reducible refine (HAI.out _).mono ?_); rintro e w7 ⟨rfl, B7⟩; replace HB := bthen HB B7; clear B7) | ((with_reducible refine (HAM.out _).mono ?_); rintro e w8 ⟨rfl, B8⟩; replace HB := bthen HB B8; clear B8)) | (go_at_call 17; refine (nan_any _).mono ?_; rintro e w9 ⟨rfl, rfl⟩) | (go_at_call 18; first | ((with_reducible refine (HIU.out _).mono ?_); rintro e w9 ⟨rfl, rfl⟩) | ((with_reducible refine (HID.out _).mono ?_); rintro e w9 ⟨rfl, rfl⟩)) | (go_at_call 7; (with_reducible refine (HA.out _ ?_).mono ?_); (focus (exact HT.out.below HB; done)); rintro e w10 ⟨rfl, B10⟩; replace HB := bthen HB B10; clear B10))
      go_ret
      exact ⟨rfl, HB⟩
  · have d4 := d3 na
    clear na d3
    rcases hs with ⟨ds, hs⟩ | ⟨ds, hs⟩
    · have dt : decide (0 < t) = false := decide_eq_false (by have := htr (by decide) hs; omega)
      clear hs htr
      go_enter Tryd.func5, Tryd.ntmps5
      go_wp2_with (first | (go_at_call 12; first | ((with_reducible refine (HAB.out _).mono ?_); rintro e w1 ⟨rfl, B1⟩; replace HB := bthen HB B1; clear B1) | ((with_reducible refine (HBA.out _).mono ?_); rintro e w2 ⟨rfl, B2⟩; replace HB := bthen HB B2; clear B2) | ((with_reducible refine (HAA.out _).mono ?_); rintro e w3 ⟨rfl, B3⟩; replace HB := bthen HB B3; clear B3) | ((with_reducible refine (HBC.out _).mono ?_); rintro e w4 ⟨rfl, B4⟩; replace HB := bthen HB B4; clear B4) | ((with_reducible refine (HAC.out _).mono ?_); rintro e w5 ⟨rfl, B5⟩; replace HB := bthen HB B5; clear B5) | ((with_reducible refine (HNA.out _).mono ?_); rintro e w6 ⟨rfl, B6⟩; replace HB := bthen HB B6; clear B6) | ((with_reducible refine (HAI.out _).mono ?_); rintro e w7 ⟨rfl, B7⟩; replace HB := bthen HB B7; clear B7) | ((with_reducible refine (HAM.out _).mono ?_); rintro e w8 ⟨rfl, B8⟩; replace HB := bthen HB B8; clear B8)) | (go_at_call 17; refine (nan_any _).mono ?_; rintro e w9 ⟨rfl, rfl⟩) | (go_at_call 18; first | ((with_reducible refine (HIU.out _).mono ?_); rintro e w9 ⟨rfl, rfl⟩) | ((with_reducible refine (HID.out _).mono ?_); rintro e w9 ⟨rfl, rfl⟩)) | (go_at_call 7; (with_reducible refine (HA.out _ ?_).mono ?_); (focus (exact HT.out.below HB; done)); rintro e w10 ⟨rfl, B10⟩; replace HB := bthen HB B10; clear B10))
      go_ret
      exact ⟨rfl, HB⟩
    · clear hs htr
      go_enter Tryd.func5, Tryd.ntmps5
      go_wp2_with (first | (go_at_call 12; first | ((with_reducible refine (HAB.out _).mono ?_); rintro e w1 ⟨rfl, B1⟩; replace HB := bthen HB B1; clear B1) | ((with_reducible refine (HBA.out _).mono ?_); rintro e w2 ⟨rfl, B2⟩; replace HB := bthen HB B2; clear B2) | ((with_reducible refine (HAA.out _).mono ?_); rintro e w3 ⟨rfl, B3⟩; replace HB := bthen HB B3; clear B3) | ((with_reducible refine (HBC.out _).mono ?_); rintro e w4 ⟨rfl, B4⟩; replace HB := bthen HB B4; clear B4) | ((with_reducible refine (HAC.out _).mono ?_); rintro e w5 ⟨rfl, B5⟩; replace HB := bthen HB B5; clear B5) | ((with_reducible refine (HNA.out _).mono ?_); rintro e w6 ⟨rfl, B6⟩; replace HB := bthen HB B6; clear B6) | ((with_reducible refine (HAI.out _).mono ?_); rintro e w7 ⟨rfl, B7⟩; replace HB := bthen HB B7; clear B7) | ((with_reducible refine (HAM.out _).mono ?_); rintro e w8 ⟨rfl, B8⟩; replace HB := bthen HB B8; clear B8)) | (go_at_call 17; refine (nan_any _).mono ?_; rintro e w9 ⟨rfl, rfl⟩) | (go_at_call 18; first | ((with_reducible refine (HIU.out _).mono ?_); rintro e w9 ⟨rfl, rfl⟩) | ((with_reducible refine (HID.out _).mono ?_); rintro e w9 ⟨rfl, rfl⟩)) | (go_at_call 7; (with_reducible refine (HA.out _ ?_).mono ?_); (focus (exact HT.out.below HB; done)); rintro e w10 ⟨rfl, B10⟩; replace HB := bthen HB B10; clear B10))
      go_ret
      exact ⟨rfl, HB⟩
  · have d4 := d3 na
    clear na d3
    rcases hs with ⟨ds, hs⟩ | ⟨ds, hs⟩
    · have dt : decide (0 < t) = false := decide_eq_false (by have := htr (by decide) hs; omega)
      clear hs htr
      go_enter Tryd.func5, Tryd.ntmps5
      go_wp2_with (first | (go_at_call 12; first | ((with_reducible refine (HAB.out _).mono ?_); rintro e w1 ⟨rfl, B1⟩; replace HB := bthen HB B1; clear B1) | ((with_reducible refine (HBA.out _).mono ?_); rintro e w2 ⟨rfl, B2⟩; replace HB := bthen HB B2; clear B2) | ((with_reducible refine (HAA.out _).mono ?_); rintro e w3 ⟨rfl, B3⟩; replace HB := bthen HB B3; clear B3) | ((with_reducible refine (HBC.out _).mono ?_); rintro e w4 ⟨rfl, B4⟩; replace HB := bthen HB B4; clear B4) | ((with_reducible refine (HAC.out _).mono ?_); rintro e w5 ⟨rfl, B5⟩; replace HB := bthen HB B5; clear B5) | ((with_reducible refine (HNA.out _).mono ?_); rintro e w6 ⟨rfl, B6⟩; replace HB := bthen HB B6; clear B6) | ((with_reducible refine (HAI.out _).mono ?_); rintro e w7 ⟨rfl, B7⟩; replace HB := bthen HB B7; clear B7) | ((with_reducible refine (HAM.out _).mono ?_); rintro e w8 ⟨rfl, B8⟩; replace HB := bthen HB B8; clear B8)) | (go_at_call 17; refine (nan_any _).mono ?_; rintro e w9 ⟨rfl, rfl⟩) | (go_at_call 18; first | ((with_reducible refine (HIU.out _).mono ?_); rintro e w9 ⟨rfl, rfl⟩) | ((with_reducible refine (HID.out _).mono ?_); rintro e w9 ⟨rfl, rfl⟩)) | (go_at_call 7; (with_reducible refine (HA.out _ ?_).mono ?_); (focus (exact HT.out.below HB; done)); rintro e w10 ⟨rfl, B10⟩; replace HB := bthen HB B10; clear B10))
      go_ret
      exact ⟨rfl, HB⟩
    · clear hs htr
      go_enter Tryd.func5, Tryd.ntmps5
      go_wp2_with (first | (go_at_call 12; first | ((with_reducible refine (HAB.out _).mono ?_); rintro e w1 ⟨rfl, B1⟩; replace HB := bthen HB B1; clear B1) | ((with_reducible refine (HBA.out _).mono ?_); rintro e w2 ⟨rfl, B2⟩; replace HB := bthen HB B2; clear B2) | ((with_reducible refine (HAA.out _).mono ?_); rintro e w3 ⟨rfl, B3⟩; replace HB := bthen HB B3; clear B3) | ((with_reducible refine (HBC.out _).mono ?_); rintro e w4 ⟨rfl, B4⟩; replace HB := bthen HB B4; clear B4) | ((with_reducible refine (HAC.out _).mono ?_); rintro e w5 ⟨rfl, B5⟩; replace HB := bthen HB B5; clear B5) | ((with_reducible refine (HNA.out _).mono ?_); rintro e w6 ⟨rfl, B6⟩; replace HB := bthen HB B6; clear B6) | ((with_reducible refine (HAI.out _).mono ?_); rintro e w7 ⟨rfl, B7⟩; replace HB := bthen HB B7; clear B7) | ((with_reducible refine (HAM.out _).mono ?_); rintro e w8 ⟨rfl, B8⟩; replace HB := bthen HB B8; clear B8)) | (go_at_call 17; refine (nan_any _).mono ?_; rintro e w9 ⟨rfl, rfl⟩) | (go_at_call 18; first | ((with_reducible refine (HIU.out _).mono ?_); rintro e w9 ⟨rfl, rfl⟩) | ((with_reducible refine (HID.out _).mono ?_); rintro e w9 ⟨rfl, rfl⟩)) | (go_at_call 7; (with_reducible refine (HA.out _ ?_).mono ?_); (focus (exact HT.out.below HB; done)); rintro e w10 ⟨rfl, B10⟩; replace HB := bthen HB B10; clear B10))
      go_ret
      exact ⟨rfl, HB⟩
  · have d4 := d3 na
    clear na d3
    clear hs htr
    go_enter Tryd.func5, Tryd.ntmps5
    go_wp2_with (first | (go_at_call 12; first | ((with_reducible refine (HAB.out _).mono ?_); rintro e w1 ⟨rfl, B1⟩; replace HB := bthen HB B1; clear B1) | ((with_reducible refine (HBA.out _).mono ?_); rintro e w2 ⟨rfl, B2⟩; replace HB := bthen HB B2; clear B2) | ((with_reducible refine (HAA.out _).mono ?_); rintro e w3 ⟨rfl, B3⟩; replace HB := bthen HB B3; clear B3) | ((with_reducible refine (HBC.out _).mono ?_); rintro e w4 ⟨rfl, B4⟩; replace HB := bthen HB B4; clear B4) | ((with_reducible refine (HAC.out _).mono ?_); rintro e w5 ⟨rfl, B5⟩; replace HB := bthen HB B5; clear B5) | ((with_reducible refine (HNA.out _).mono ?_); rintro e w6 ⟨rfl, B6⟩; replace HB := bthen HB B6; clear B6) | ((with_reducible refine (HAI.out _).mono ?_); rintro e w7 ⟨rfl, B7⟩; replace HB := bthen HB B7; clear B7) | ((with_reducible refine (HAM.out _).mono ?_); rintro e w8 ⟨rfl, B8⟩; replace HB := bthen HB B8; clear B8)) | (go_at_call 17; refine (nan_any _).mono ?_; rintro e w9 ⟨rfl, rfl⟩) | (go_at_call 18; first | ((with_reducible refine (HIU.out _).mono ?_); rintro e w9 ⟨rfl, rfl⟩) | ((with_reducible refine (HID.out _).mono ?_); rintro e w9 ⟨rfl, rfl⟩)) | (go_at_call 7; (with_reducible refine (HA.out _ ?_).mono ?_); (focus (exact HT.out.below HB; done)); rintro e w10 ⟨rfl, B10⟩; replace HB := bthen HB B10; clear B10))
    go_ret
    exact ⟨rfl, HB⟩
  · have d4 := d3 na
    clear na d3
    clear hs htr
    go_enter Tryd.func5, Tryd.ntmps5
    go_wp2_with (first | (go_at_call 12; first | ((with_reducible refine (HAB.out _).mono ?_); rintro e w1 ⟨rfl, B1⟩; replace HB := bthen HB B1; clear B1) | ((with_reducible refine (HBA.out _).mono ?_); rintro e w2 ⟨rfl, B2⟩; replace HB := bthen HB B2; clear B2) | ((with_reducible refine (HAA.out _).mono ?_); rintro e w3 ⟨rfl, B3⟩; replace HB := bthen HB B3; clear B3) | ((with_reducible refine (HBC.out _).mono ?_); rintro e w4 ⟨rfl, B4⟩; replace HB := bthen HB B4; clear B4) | ((with_reducible refine (HAC.out _).mono ?_); rintro e w5 ⟨rfl, B5⟩; replace HB := bthen HB B5; clear B5) | ((with_reducible refine (HNA.out _).mono ?_); rintro e w6 ⟨rfl, B6⟩; replace HB := bthen HB B6; clear B6) | ((with_reducible refine (HAI.out _).mono ?_); rintro e w7 ⟨rfl, B7⟩; replace HB := bthen HB B7; clear B7) | ((with_reducible refine (HAM.out _).mono ?_); rintro e w8 ⟨rfl, B8⟩; replace HB := bthen HB B8; clear B8)) | (go_at_call 17; refine (nan_any _).mono ?_; rintro e w9 ⟨rfl, rfl⟩) | (go_at_call 18; first | ((with_reducible refine (HIU.out _).mono ?_); rintro e w9 ⟨rfl, rfl⟩) | ((with_reducible refine (HID.out _).mono ?_); rintro e w9 ⟨rfl, rfl⟩)) | (go_at_call 7; (with_reducible refine (HA.out _ ?_).mono ?_); (focus (exact HT.out.below HB; done)); rintro e w10 ⟨rfl, B10⟩; replace HB := bthen HB B10; clear B10))
    go_ret
    exact ⟨rfl, HB⟩
theorem flt_lt {a : Nat} (h : (Lit.float .f64 a).wf = true) : a < 18446744073709551616 := by
  have : a < 2 ^ 64 := by simpa [Lit.wf] using h
  omega
theorem total_row (a : Nat) (ha : (Lit.float .f64 a).wf = true) (b : Nat) (hb : (Lit.float .f64 b).wf = true) (c : Nat) (hc : (Lit.float .f64 c).wf = true) (w : World) (hT : Tb w) : Calls Tryd.prog 5 #[.float .f64 a, .float .f64 b, .float .f64 c] w fun e w' => e = .returned (.bool true) ∧ Below w.heap.size w w' :=
  total_any a b c (flt_lt ha) (flt_lt hb) (flt_lt hc) w hT
end Go.Proofs.YtedllapajgcfeaaDoor
