/-
  GourlParses: what is told of any text is the document's: the call returns true.
-/
import Derived.Test.YtpccfagbmbbpkaaEq
namespace Go.Proofs.Ytpccfagbmbbpkaa
open Go.RowKit Go.Proofs.YtpccfagbmbbpkaaW.PrintWords

set_option maxHeartbeats 1600000 in
theorem parses_list (l : Pc.B) (hl : l.length ≤ 9223372036854775807) (w : World) : Calls Try.prog 3 #[.string ⟨l.toArray⟩] w fun e w' => e = .returned (.bool true) ∧ Below w.heap.size w w' := by
  by_cases h : 400 < l.length
  · go_enter Try.func3, Try.ntmps3
    go_wp2_with fail
    refine (gawake_any _).mono ?_
    rintro e w1 ⟨rfl, B1⟩
    go_wp2_with fail
    go_ret
    exact ⟨rfl, B1⟩
  · have HE : ∀ w, (binOp .eql 24 (res (Gu.parse l)) (res (Gu.parse l))).run Try.prog w = .ok (.bool true) w := fun w => by rw [eq_res, decide_eq_true rfl]
    have HG := fun op x y w => eqg_res op x y (Gu.parse l) (Gu.parse l) w
    have HP := Lib.hid (fun w => parse_any l (by omega) w)
    have HR := Lib.hid (fun w => rparse_any l (by omega) w)
    generalize Gu.parse l = o at HP HE HG HR
    generalize res o = v at HP HE HG HR
    go_enter Try.func3, Try.ntmps3
    go_wp2_with fail
    refine (HP.out _).mono ?_
    rintro e w1 ⟨rfl, B1⟩
    go_wp2_with fail
    refine (HR.out _).mono ?_
    rintro e w2 ⟨rfl, B2⟩
    have HB := bthen B1 B2
    clear B1 B2
    go_wp2_with fail
    refine (gawake_any _).mono ?_
    rintro e w3 ⟨rfl, B3⟩
    have HB3 := bthen HB B3
    clear HB B3
    go_wp2_with fail
    go_ret
    exact ⟨rfl, HB3⟩
theorem parses_any (a : ByteArray) (ha : a.size ≤ maxLen) (w : World) : Calls Try.prog 3 #[.string a] w fun e w' => e = .returned (.bool true) ∧ Below w.heap.size w w' := by
  have h : a.data.toList.length ≤ 9223372036854775807 := by rw [data_length]; exact ha
  rw [str_eq a]
  exact parses_list _ h w
end Go.Proofs.Ytpccfagbmbbpkaa
