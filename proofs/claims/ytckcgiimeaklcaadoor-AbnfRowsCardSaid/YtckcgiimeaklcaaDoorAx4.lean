/-
  The reader's number, hex, literal: walked.
-/
import Derived.Test.YtckcgiimeaklcaaDoorAx3
namespace Go.Proofs.YtckcgiimeaklcaaDoor
set_option linter.unusedVariables false
set_option linter.unusedSimpArgs false
open Go.RowKit Go.Proofs.YtckcgiimeaklcaaDoorW.PrintWords
open Ab (T El R Rs sz rootI post els root hasR szs)
theorem dig_le {c : UInt8} (h : Ab.dig c = true) : 48 ≤ c.toNat ∧ c.toNat ≤ 57 := by
  unfold Ab.dig at h
  simpa using h
section
variable {w0 w : World} {base gg gr bm : Nat} {l : List UInt8} {ln : Int} {op : Nat} {es : List El} {ls : List Int} {rs : Rs} {vE vL : Value}
set_option maxRecDepth 100000 in
set_option maxHeartbeats 3200000 in
theorem number_any (h : RSv w base gg gr bm l ln op es ls rs vE vL) : Calls Tryd.prog 61 #[.pointer (some ⟨gr, 0, none⟩)] w fun e w' => e = .returned (.tuple #[.int .i64 (Ab.number l).1, .bool (Ab.number l).2.1]) ∧ RSv w' base gg gr bm (Ab.number l).2.2 ln op es ls rs vE vL ∧ Kp base gg bm w w' := by
  have H := Lib.hid h
  obtain ⟨c0, c1, c2, c3⟩ := h.cells
  have f1 := h.ice 1
  clear h
  go_enter Tryd.func61, Tryd.ntmps61
  go_wp2_with fail
  go_loop [4, 5] (fun n x => (n = .int .i64 0 ∧ x = .int .i64 0) ∨ (∃ c t, l = c :: t ∧ Ab.dig c = true ∧ n = .int .i64 1 ∧ x = .int .i64 ((c.toNat : Int) - 48)) ∨ (∃ c d t, l = c :: d :: t ∧ Ab.dig c = true ∧ Ab.dig d = true ∧ n = .int .i64 2 ∧ x = .int .i64 (10 * ((c.toNat : Int) - 48) + ((d.toNat : Int) - 48)))) (fun n _ => 2 - (RowKit.intOf n).toNat)
  case atStart => exact Or.inl ⟨rfl, rfl⟩
  case round =>
    rcases hrel with ⟨rfl, rfl⟩ | ⟨c, t, rfl, hc, rfl, rfl⟩ | ⟨c, d, t, rfl, hc, hd, rfl, rfl⟩
    · rcases l with _ | ⟨c, t⟩
      · go_wp2_with fail
        refine bodyPost_ret (v := .tuple #[.int .i64 0, .bool false]) (by simp [results, Tryd.results61]) rfl ⟨rfl, H.out.setS [] (by simp), H.out.kset (Kp.refl _ _ _ _) 1 _⟩
      · have t1 : decide ((0 : Int) < ((c :: t).length : Int)) = true := decide_eq_true (by simp only [List.length_cons]; omega)
        have t2 : decide ((0 : Int) < (t.length : Int) + 1) = true := decide_eq_true (by omega)
        have hb := c.toNat_lt
        cases hc : Ab.dig c
        · go_wp2_with (first | (go_at_call 39; refine (digit_any c _).mono ?_; rintro e w1 ⟨rfl, rfl⟩; simp only [hc]))
          have e : Ab.number (c :: t) = (0, false, c :: t) := by simp [Ab.number, hc]
          rw [e]
          refine bodyPost_ret (v := .tuple #[.int .i64 0, .bool false]) (by simp [results, Tryd.results61]) rfl ⟨rfl, H.out.setS (c :: t) (by simp), H.out.kset (Kp.refl _ _ _ _) 1 _⟩
        · have hd := dig_le hc
          go_wp2_with (first | (go_at_call 39; refine (digit_any c _).mono ?_; rintro e w1 ⟨rfl, rfl⟩; simp only [hc]))
          go_round
          case rel => exact Or.inr (Or.inl ⟨c, t, rfl, hc, rfl, by go_num⟩)
          case measure => simp [RowKit.intOf]
    · have hcd := dig_le hc
      rcases t with _ | ⟨d, t⟩
      · have e : Ab.number [c] = ((c.toNat : Int) - 48, true, []) := by simp [Ab.number, hc]
        have HE := Lib.hid e
        clear e
        go_wp2_with fail
        rw [HE.out]
        refine bodyPost_ret (v := .tuple #[.int .i64 ((c.toNat : Int) - 48), .bool true]) (by simp [results, Tryd.results61]) rfl ⟨rfl, H.out.setS [] (by simp), H.out.kset (Kp.refl _ _ _ _) 1 _⟩
      · have t1 : decide ((1 : Int) < ((c :: d :: t).length : Int)) = true := decide_eq_true (by simp only [List.length_cons]; omega)
        have t2 : decide ((1 : Int) < (t.length : Int) + 1 + 1) = true := decide_eq_true (by omega)
        have hb := d.toNat_lt
        cases hd : Ab.dig d
        · have e : Ab.number (c :: d :: t) = ((c.toNat : Int) - 48, true, d :: t) := by simp [Ab.number, hc, hd]
          have HE := Lib.hid e
          clear e
          go_wp2_with (first | (go_at_call 39; refine (digit_any d _).mono ?_; rintro e w1 ⟨rfl, rfl⟩; simp only [hd]))
          rw [HE.out]
          refine bodyPost_ret (v := .tuple #[.int .i64 ((c.toNat : Int) - 48), .bool true]) (by simp [results, Tryd.results61]) rfl ⟨rfl, H.out.setS (d :: t) (by simp), H.out.kset (Kp.refl _ _ _ _) 1 _⟩
        · have hdd := dig_le hd
          go_wp2_with (first | (go_at_call 39; refine (digit_any d _).mono ?_; rintro e w1 ⟨rfl, rfl⟩; simp only [hd]))
          go_round
          case rel => exact Or.inr (Or.inr ⟨c, d, t, rfl, hc, hd, rfl, by go_num⟩)
          case measure => simp [RowKit.intOf]
    · have e : Ab.number (c :: d :: t) = (10 * ((c.toNat : Int) - 48) + ((d.toNat : Int) - 48), true, t) := by simp [Ab.number, hc, hd]
      have HE := Lib.hid e
      clear e
      go_wp2_with fail
      rw [HE.out]
      refine bodyPost_ret (v := .tuple #[.int .i64 (10 * ((c.toNat : Int) - 48) + ((d.toNat : Int) - 48)), .bool true]) (by simp [results, Tryd.results61]) rfl ⟨rfl, H.out.setS t (by simp; omega), H.out.kset (Kp.refl _ _ _ _) 1 _⟩
end
end Go.Proofs.YtckcgiimeaklcaaDoor
