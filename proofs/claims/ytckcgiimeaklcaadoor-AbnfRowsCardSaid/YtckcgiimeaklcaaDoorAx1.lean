/-
  The reader's fails, blanks, is, must; letter, digit: walked.
-/
import Derived.Test.YtckcgiimeaklcaaDoorAm
import Derived.Test.YtckcgiimeaklcaaDoorShf
namespace Go.Proofs.YtckcgiimeaklcaaDoor
set_option linter.unusedVariables false
set_option linter.unusedSimpArgs false
open Go.RowKit Go.Proofs.YtckcgiimeaklcaaDoorW.PrintWords
open Ab (T El R Rs sz rootI post els root hasR szs)

theorem trim_blanks (l : List UInt8) : Lib.trimLeftB l 32 = Ab.blanks l := rfl
theorem blanks_len (l : List UInt8) : (Ab.blanks l).length ≤ l.length := (List.dropWhile_sublist _).length_le
section
variable {w0 w : World} {base gg gr bm : Nat} {l : List UInt8} {ln : Int} {op : Nat} {es : List El} {ls : List Int} {rs : Rs} {vE vL : Value}
set_option maxHeartbeats 1600000 in
theorem fails_any (x : Int) : Calls Tryd.prog 24 #[.int .i64 x] w fun e w' => e = .panicked (flt x) ∧ w' = w := by
  go_enter Tryd.func24, Tryd.ntmps24
  go_wp2_with fail
  exact ⟨rfl, rfl, rfl⟩
set_option maxHeartbeats 1600000 in
theorem blanks_any (h : RSv w base gg gr bm l ln op es ls rs vE vL) : Calls Tryd.prog 23 #[.pointer (some ⟨gr, 0, none⟩)] w fun e w' => e = .returned (.tuple #[]) ∧ RSv w' base gg gr bm (Ab.blanks l) ln op es ls rs vE vL ∧ Kp base gg bm w w' := by
  have H := Lib.hid h
  obtain ⟨c0, c1, c2, c3⟩ := h.cells
  have f1 := h.ice 1
  clear h
  go_enter Tryd.func23, Tryd.ntmps23
  go_wp2_with fail
  refine (Tryd.strings_TrimLeft_one _ 32 (by decide) _).mono ?_
  rintro e w1 ⟨rfl, rfl⟩
  go_wp2_with fail
  simp only [trim_blanks]
  go_end0
  exact ⟨rfl, H.out.setS _ (blanks_len l), H.out.kset (Kp.refl _ _ _ _) 1 _⟩
set_option maxHeartbeats 1600000 in
theorem is_any (t : List UInt8) (h : RSv w base gg gr bm l ln op es ls rs vE vL) : Calls Tryd.prog 40 #[.pointer (some ⟨gr, 0, none⟩), .string ⟨t.toArray⟩] w fun e w' => e = .returned (.bool (Lib.hasPrefix l t)) ∧ RSv w' base gg gr bm (Lib.trimPrefix l t) ln op es ls rs vE vL ∧ Kp base gg bm w w' := by
  have H := Lib.hid h
  obtain ⟨c0, c1, c2, c3⟩ := h.cells
  have f1 := h.ice 1
  clear h
  cases hp : Lib.hasPrefix l t
  · have HP := Lib.hid hp
    have HT : Hid (Lib.trimPrefix l t = l) := Lib.hid (by unfold Lib.trimPrefix; rw [hp]; rfl)
    clear hp
    go_enter Tryd.func40, Tryd.ntmps40
    go_wp2_with fail
    refine (Tryd.strings_CutPrefix _ _ _).mono ?_
    rintro e w1 ⟨rfl, rfl⟩
    simp only [HP.out]
    go_wp2_with fail
    go_ret
    rw [HT.out]
    exact ⟨rfl, H.out, Kp.refl _ _ _ _⟩
  · have HP := Lib.hid hp
    have HT : Hid ((Lib.trimPrefix l t).length ≤ l.length) := Lib.hid (by unfold Lib.trimPrefix; split <;> simp)
    clear hp
    go_enter Tryd.func40, Tryd.ntmps40
    go_wp2_with fail
    refine (Tryd.strings_CutPrefix _ _ _).mono ?_
    rintro e w1 ⟨rfl, rfl⟩
    simp only [HP.out]
    go_wp2_with fail
    go_ret
    exact ⟨rfl, H.out.setS _ HT.out, H.out.kset (Kp.refl _ _ _ _) 1 _⟩
set_option maxHeartbeats 1600000 in
theorem must_any (t : List UInt8) (h : RSv w base gg gr bm l ln op es ls rs vE vL) : Calls Tryd.prog 26 #[.pointer (some ⟨gr, 0, none⟩), .string ⟨t.toArray⟩] w fun e w' =>
    (if Lib.hasPrefix l t then e = .returned (.tuple #[]) ∧ RSv w' base gg gr bm (Lib.trimPrefix l t) ln op es ls rs vE vL else e = .panicked (flt 8)) ∧ Kp base gg bm w w' := by
  have H := Lib.hid h
  clear h
  cases hp : Lib.hasPrefix l t
  · have HP := Lib.hid hp
    clear hp
    go_enter Tryd.func26, Tryd.ntmps26
    go_wp2_with fail
    refine (is_any t H.out).mono ?_
    rintro e w1 ⟨rfl, h1, k1⟩
    rw [HP.out]
    have HK := Lib.hid k1
    clear h1 k1
    go_wp2_with fail
    refine (fails_any 8).mono ?_
    rintro e w2 ⟨rfl, rfl⟩
    refine ⟨rfl, ?_, HK.out⟩
    exact rfl
  · have HP := Lib.hid hp
    clear hp
    go_enter Tryd.func26, Tryd.ntmps26
    go_wp2_with fail
    refine (is_any t H.out).mono ?_
    rintro e w1 ⟨rfl, h1, k1⟩
    rw [HP.out]
    have HK := Lib.hid k1
    have H1 := Lib.hid h1
    clear h1 k1
    go_wp2_with fail
    go_end0
    exact ⟨⟨rfl, H1.out⟩, HK.out⟩
end
theorem bor_fin : ∀ n : Fin 256, bits BinOp.or IntKind.u8 ((n.1 : Nat) : Int) 32 = ((n.1 ||| 32 : Nat) : Int) := by decide +kernel
theorem bor_u8 (c : UInt8) : bits BinOp.or IntKind.u8 (c.toNat : Int) 32 = ((c ||| 32).toNat : Int) := by
  have := bor_fin ⟨c.toNat, c.toNat_lt⟩
  rw [this, UInt8.toNat_or]; rfl
theorem letter_eq (c : UInt8) : Ab.letter c = (decide (97 ≤ ((c ||| 32).toNat : Int)) && decide (((c ||| 32).toNat : Int) ≤ 122)) := by
  unfold Ab.letter
  congr 1 <;> (apply decide_eq_decide.2; omega)
theorem dig_eq (c : UInt8) : Ab.dig c = (decide (48 ≤ (c.toNat : Int)) && decide ((c.toNat : Int) ≤ 57)) := by
  unfold Ab.dig
  congr 1 <;> (apply decide_eq_decide.2; omega)
theorem letter_any (c : UInt8) (w : World) : Calls Tryd.prog 38 #[.int .u8 c.toNat] w fun e w' => e = .returned (.bool (Ab.letter c)) ∧ w' = w := by
  have hb := c.toNat_lt
  have hor := bor_u8 c
  have hl := Lib.hid (letter_eq c)
  go_enter Tryd.func38, Tryd.ntmps38
  go_wp2_with fail
  all_goals
    go_ret
    rw [hl.out]
    refine ⟨ret_bool ?_, rfl⟩
    simp [*]
    try omega
theorem digit_any (c : UInt8) (w : World) : Calls Tryd.prog 39 #[.int .u8 c.toNat] w fun e w' => e = .returned (.bool (Ab.dig c)) ∧ w' = w := by
  have hb := c.toNat_lt
  have hl := Lib.hid (dig_eq c)
  go_enter Tryd.func39, Tryd.ntmps39
  go_wp2_with fail
  all_goals
    go_ret
    rw [hl.out]
    refine ⟨ret_bool ?_, rfl⟩
    simp [*]
    try omega
end Go.Proofs.YtckcgiimeaklcaaDoor
