/-
  The reader's digit: walked.
-/
import Derived.Test.YtebkaajnnjfhjaaRx2
namespace Go.Proofs.Ytebkaajnnjfhjaa
set_option linter.unusedVariables false
set_option linter.unusedSimpArgs false
open Go.RowKit Go.Proofs.YtebkaajnnjfhjaaW.PrintWords
open Tr (Nd Pt T R sz rootI post)

/-- What a call of the reader comes to that only reads on: as the plain reader says. -/
def OutR (w : World) (base g : Nat) (l : List UInt8) (op : Nat) (ns : List Nd) (ps : List Pt) (vN vP : Value) {α : Type} (enc : α → Value) (res : R α) (e : Ending) (w' : World) : Prop :=
  match res with
  | .ok v r' p' => e = .returned (enc v) ∧ RS w' base g l r' p' op ns ps vN vP ∧ Bg g w w'
  | .no q x => e = .panicked (flt q x) ∧ Bg g w w'
section
variable {w0 w : World} {base g : Nat} {l r : List UInt8} {p op : Nat} {ns : List Nd} {ps : List Pt} {vN vP : Value}
set_option maxHeartbeats 1600000 in
theorem digit_any (h : RS w base g l r p op ns ps vN vP) : Calls Try.prog 38 #[.pointer (some ⟨g, 0, none⟩)] w (OutR w base g l op ns ps vN vP (fun d : Int => .int .i64 d) (Tr.digit r p)) := by
  have H := Lib.hid h
  have HF := fun z => Lib.hid (fails_any (w := z) (g := g) p 8)
  rcases r with _ | ⟨c, r⟩
  · have HN := Lib.hid (next_none h)
    clear h
    go_enter Try.func38, Try.ntmps38
    go_wp2_with fail
    refine HN.out.mono ?_
    rintro e w1 ⟨rfl, B1⟩
    have HR := Lib.hid (H.out.below B1)
    obtain ⟨c0, c1, c2, c3, c4⟩ := HR.out.cells
    have HB := Lib.hid B1
    clear B1
    go_wp2_with fail
    refine (fails_any p 8).mono ?_
    rintro e w2 ⟨rfl, B2⟩
    exact ⟨rfl, rfl, H.out.fr (HB.out.trans (B2.mono HB.out.size))⟩
  · have HN := Lib.hid (next_some h)
    have hp := h.pl
    have hl := h.ll
    simp only [List.length_cons] at hp
    have W1 : IntKind.i64.wrap ((p : Int) + 1) = (p : Int) + 1 := IntWalk.i64_in _ (by omega)
    clear h hp hl
    by_cases hd : 48 ≤ c.toNat ∧ c.toNat ≤ 57
    · have ER : Hid (Tr.digit (c :: r) p = .ok (c.toNat - 48 : Int) r (p + 1)) := Lib.hid (if_pos hd)
      rw [ER.out]
      have d1 : decide ((c.toNat : Int) < 48) = false := decide_eq_false (by omega)
      have d2 : decide (57 < (c.toNat : Int)) = false := decide_eq_false (by omega)
      have HD := Lib.hid hd
      clear hd
      go_enter Try.func38, Try.ntmps38
      go_wp2_with fail
      refine HN.out.mono ?_
      rintro e w1 ⟨rfl, B1⟩
      have HR := Lib.hid (H.out.below B1)
      obtain ⟨c0, c1, c2, c3, c4⟩ := HR.out.cells
      have f1 := HR.out.ice 1
      have HB := Lib.hid B1
      clear B1
      go_wp2_with fail
      go_ret
      refine ⟨ret_int (by have := HD.out; show ((c.toNat : Int) - 48) % 256 = (c.toNat : Int) - 48; omega), ?_, (H.out.fr HB.out).set 1 _⟩
      have := HR.out.at_ 1 (by simp)
      simpa using this
    · have ER : Hid (Tr.digit (c :: r) p = .no p 8) := Lib.hid (if_neg hd)
      rw [ER.out]
      have d0 : (decide ((c.toNat : Int) < 48) = true ∧ decide (57 < (c.toNat : Int)) = false) ∨ (decide ((c.toNat : Int) < 48) = false ∧ decide (57 < (c.toNat : Int)) = true) := by
        rcases Nat.lt_or_ge c.toNat 48 with h | h
        · exact Or.inl ⟨decide_eq_true (by omega), decide_eq_false (by omega)⟩
        · exact Or.inr ⟨decide_eq_false (by omega), decide_eq_true (by omega)⟩
      clear hd
      rcases d0 with ⟨d1, d2⟩ | ⟨d1, d2⟩
      all_goals
        go_enter Try.func38, Try.ntmps38
        go_wp2_with fail
        refine HN.out.mono ?_
        rintro e w1 ⟨rfl, B1⟩
        have HR := Lib.hid (H.out.below B1)
        obtain ⟨c0, c1, c2, c3, c4⟩ := HR.out.cells
        have HB := Lib.hid B1
        clear B1
        go_wp2_with fail
        refine (fails_any p 8).mono ?_
        rintro e w2 ⟨rfl, B2⟩
        exact ⟨rfl, rfl, H.out.fr (HB.out.trans (B2.mono HB.out.size))⟩
end
end Go.Proofs.Ytebkaajnnjfhjaa
