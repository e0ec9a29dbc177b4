/-
  The reader's next, is, fails: walked.
-/
import Derived.Test.YtebkaajnnjfhjaaRd
namespace Go.Proofs.Ytebkaajnnjfhjaa
set_option linter.unusedVariables false
set_option linter.unusedSimpArgs false
open Go.RowKit Go.Proofs.YtebkaajnnjfhjaaW.PrintWords
open Tr (Nd Pt T R sz rootI post)

section
variable {w0 w : World} {base g : Nat} {l r : List UInt8} {p op : Nat} {ns : List Nd} {ps : List Pt} {vN vP : Value}
set_option maxHeartbeats 1600000 in
theorem next_none (h : RS w base g l [] p op ns ps vN vP) : Calls Try.prog 21 #[.pointer (some ⟨g, 0, none⟩)] w fun e w' => e = .returned (.tuple #[.int .u8 0, .bool false]) ∧ Below w.heap.size w w' := by
  obtain ⟨c0, c1, c2, c3, c4⟩ := h.cells
  have hd := h.none_
  clear h
  go_enter Try.func21, Try.ntmps21
  go_wp2_with fail
  go_quiet (fail)
  go_wp2_with fail
  refine bodyPost_ret (v := .tuple #[.int .u8 0, .bool false]) ?_ rfl ⟨rfl, by (repeat (first | (with_reducible exact Below.refl _ _) | (with_reducible refine Below.drew ?_) | (with_reducible refine rx_drewN ?_ _) | ((with_reducible apply bthen); rotate_left; assumption)))⟩
  simp [results, Try.results21]
set_option maxHeartbeats 1600000 in
theorem next_some {c : UInt8} (h : RS w base g l (c :: r) p op ns ps vN vP) : Calls Try.prog 21 #[.pointer (some ⟨g, 0, none⟩)] w fun e w' => e = .returned (.tuple #[.int .u8 c.toNat, .bool true]) ∧ Below w.heap.size w w' := by
  obtain ⟨c0, c1, c2, c3, c4⟩ := h.cells
  obtain ⟨hd, hp, hg⟩ := h.some_
  have h0 : (0 : Int) ≤ p := by omega
  have h1 : (p : Int) < (l.length : Int) := by omega
  clear h
  go_enter Try.func21, Try.ntmps21
  go_wp2_with fail
  go_quiet (fail)
  go_wp2_with fail
  go_quiet (fail)
  go_wp2_with fail
  refine bodyPost_ret (v := .tuple #[.int .u8 c.toNat, .bool true]) ?_ rfl ⟨rfl, by (repeat (first | (with_reducible exact Below.refl _ _) | (with_reducible refine Below.drew ?_) | (with_reducible refine rx_drewN ?_ _) | ((with_reducible apply bthen); rotate_left; assumption)))⟩
  simp [results, Try.results21]
set_option maxHeartbeats 1600000 in
theorem fails_any (p : Nat) (x : Int) : Calls Try.prog 14 #[.pointer (some ⟨g, 0, none⟩), .int .i64 p, .int .i64 x] w fun e w' => e = .panicked (flt p x) ∧ Below w.heap.size w w' := by
  go_enter Try.func14, Try.ntmps14
  go_wp2_with fail
  exact ⟨rfl, rfl, Below.refl _ _⟩
/-- Is a byte next? -/
theorem nx_none (x : UInt8) : Tr.nx x [] = false := rfl
theorem nx_some (x c : UInt8) (r : List UInt8) : Tr.nx x (c :: r) = (c == x) := by unfold Tr.nx; simp
set_option maxHeartbeats 1600000 in
theorem is_no {x : UInt8} (hx : Tr.nx x r = false) (h : RS w base g l r p op ns ps vN vP) : Calls Try.prog 17 #[.pointer (some ⟨g, 0, none⟩), .int .u8 x.toNat] w fun e w' => e = .returned (.bool false) ∧ RS w' base g l r p op ns ps vN vP ∧ Bg g w w' := by
  have H := Lib.hid h
  rcases r with _ | ⟨c, r⟩
  · have HN := Lib.hid (next_none h)
    clear h
    go_enter Try.func17, Try.ntmps17
    go_wp2_with fail
    refine HN.out.mono ?_
    rintro e w1 ⟨rfl, B1⟩
    have HB := Lib.hid B1
    clear B1
    go_wp2_with fail
    go_ret
    exact ⟨rfl, H.out.below HB.out, H.out.fr HB.out⟩
  · have HN := Lib.hid (next_some h)
    have hx' : ((c.toNat : Int) == x.toNat) = false := by rw [u8_beq, ← nx_some]; exact hx
    have hx2 : ((c.toNat : Int) != x.toNat) = true := by unfold bne; rw [hx']; rfl
    clear h hx
    go_enter Try.func17, Try.ntmps17
    go_wp2_with fail
    refine HN.out.mono ?_
    rintro e w1 ⟨rfl, B1⟩
    have HB := Lib.hid B1
    clear B1
    go_wp2_with fail
    go_ret
    exact ⟨rfl, H.out.below HB.out, H.out.fr HB.out⟩
set_option maxHeartbeats 1600000 in
theorem is_yes {x : UInt8} (h : RS w base g l (x :: r) p op ns ps vN vP) : Calls Try.prog 17 #[.pointer (some ⟨g, 0, none⟩), .int .u8 x.toNat] w fun e w' => e = .returned (.bool true) ∧ RS w' base g l r (p + 1) op ns ps vN vP ∧ Bg g w w' := by
  have H := Lib.hid h
  have HN := Lib.hid (next_some h)
  have hx2 : ((x.toNat : Int) != x.toNat) = false := by simp
  have hp := h.pl
  have hl := h.ll
  simp only [List.length_cons] at hp
  have W1 : IntKind.i64.wrap ((p : Int) + 1) = (p : Int) + 1 := IntWalk.i64_in _ (by omega)
  clear h hp hl
  go_enter Try.func17, Try.ntmps17
  go_wp2_with fail
  refine HN.out.mono ?_
  rintro e w1 ⟨rfl, B1⟩
  have H1 := H.out.below B1
  have HH := Lib.hid H1
  have HB := Lib.hid B1
  obtain ⟨c0, c1, c2, c3, c4⟩ := H1.cells
  have f1 := H1.ice 1
  clear B1 H1
  go_wp2_with fail
  go_ret
  refine ⟨rfl, ?_, (H.out.fr HB.out).set 1 _⟩
  have := HH.out.at_ 1 (by simp)
  simpa using this
end
end Go.Proofs.Ytebkaajnnjfhjaa
