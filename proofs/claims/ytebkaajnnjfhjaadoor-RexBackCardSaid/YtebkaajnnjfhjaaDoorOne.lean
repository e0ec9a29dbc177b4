/-
  tree.one and tree.set: walked.
-/
import Derived.Test.YtebkaajnnjfhjaaDoorList
import Derived.Test.YtebkaajnnjfhjaaDoorTB
namespace Go.Proofs.YtebkaajnnjfhjaaDoor
set_option linter.unusedVariables false
set_option linter.unusedSimpArgs false
open Go.RowKit Go.Proofs.YtebkaajnnjfhjaaDoorW.PrintWords

theorem ixb_neg (l : List UInt8) (c : UInt8) : -1 ≤ Lib.indexByte l c ∧ (decide (0 ≤ Lib.indexByte l c) = l.contains c) := by
  induction l with
  | nil => exact ⟨Int.le_refl _, rfl⟩
  | cons b l ih =>
    obtain ⟨h1, h2⟩ := ih
    rw [Lib.indexByte, List.contains_cons]
    by_cases hb : b = c
    · subst hb
      simp
    · have e1 : (b == c) = false := by simpa using hb
      have e2 : (c == b) = false := by simpa using fun e : c = b => hb e.symm
      rw [e1, e2]
      simp only [Bool.false_eq_true, if_false, Bool.false_or]
      rw [← h2]
      split
      · rename_i h
        rw [beq_iff_eq] at h
        rw [h]
        exact ⟨by omega, by decide⟩
      · rename_i h
        have h' : ¬ Lib.indexByte l c = -1 := by simpa using h
        refine ⟨by omega, ?_⟩
        congr 1
        simp only [eq_iff_iff]
        omega
theorem ixb_any (c : UInt8) (l : List UInt8) (w : World) : Calls Tryd.prog 71 #[.string ⟨l.toArray⟩, .int .u8 c.toNat] w fun e w' => ∃ i : Int, e = .returned (.int .i64 i) ∧ decide (0 ≤ i) = l.contains c ∧ w = w' := by
  refine (Tryd.strings_IndexByte ⟨l.toArray⟩ c.toNat w).mono ?_
  rintro e w1 ⟨rfl, rfl⟩
  have e1 : ((c.toNat : Int)).toNat.toUInt8 = c := by rw [Int.toNat_natCast]; exact UInt8.ofNat_toNat
  refine ⟨_, rfl, ?_, rfl⟩
  rw [e1]
  exact (ixb_neg l c).2
def hexs : List UInt8 := [48, 49, 50, 51, 52, 53, 54, 55, 56, 57, 97, 98, 99, 100, 101, 102]
theorem hexs_len : hexs.length = 16 := rfl
theorem hexs_at (c : Fin 16) : hexs[c.val]'(by rw [hexs_len]; exact c.isLt) = Tr.hexd c.val := by revert c; decide
theorem hexs_int (c : Nat) (x : Int) (h : x = c) (hc : c < 16) : ((hexs[x.toNat]'(by rw [hexs_len]; omega)).toNat : Int) = (Tr.hexd c).toNat := by
  subst h
  have := hexs_at ⟨c, hc⟩
  simp only [Int.toNat_natCast]
  rw [this]
theorem cv_1 (W : World) (x : Int) : (convert 46 9 (.slice (some ⟨W.heap.size, 0, none⟩) 1 1)).run Tryd.prog (W.alloc (.cells #[.int .u8 x] 5)) = .ok (.string ⟨[UInt8.ofNat x.toNat].toArray⟩) (W.alloc (.cells #[.int .u8 x] 5)) :=
  own_string (P := Tryd.prog) Tryd.underlying46 Tryd.underlying5 Tryd.underlying9 (own_lit W W.heap.size 5 .u8 [x] (Nat.le_refl _) (by simp))
theorem cv_2 (W : World) (x y : Int) : (convert 46 9 (.slice (some ⟨W.heap.size, 0, none⟩) 2 2)).run Tryd.prog (W.alloc (.cells #[.int .u8 x, .int .u8 y] 5)).drew = .ok (.string ⟨[UInt8.ofNat x.toNat, UInt8.ofNat y.toNat].toArray⟩) (W.alloc (.cells #[.int .u8 x, .int .u8 y] 5)).drew :=
  own_string (P := Tryd.prog) Tryd.underlying46 Tryd.underlying5 Tryd.underlying9 (own_lit W W.heap.size 5 .u8 [x, y] (Nat.le_refl _) (by simp)).drew
theorem u8_back (c : UInt8) : UInt8.ofNat ((c.toNat : Int)).toNat = c := by rw [Int.toNat_natCast]; exact UInt8.ofNat_toNat
set_option maxRecDepth 100000 in
set_option maxHeartbeats 800000 in
theorem one_any (c : UInt8) (l : List UInt8) (hl : l.length ≤ 1000) (w : World) : Calls Tryd.prog 59 #[.int .u8 c.toNat, .string ⟨l.toArray⟩] w fun e w' => e = .returned (.string ⟨(Tr.one c l).toArray⟩) ∧ Below w.heap.size w w' := by
  have hc := c.toNat_lt
  have hcv1 := cv_1
  have hcv2 := cv_2
  by_cases h1 : c.toNat < 33 ∨ 126 < c.toNat
  · have e1 : Hid (Tr.one c l = [92, 120, Tr.hexd (c.toNat / 16), Tr.hexd (c.toNat % 16)]) := Lib.hid (by unfold Tr.one; rw [if_pos h1])
    rw [e1.out]
    have x1 : 0 ≤ (c.toNat : Int) / 16 := by omega
    have x2 : (c.toNat : Int) / 16 < 16 := by omega
    have x4 : 0 ≤ (c.toNat : Int) % 16 := by omega
    have x5 : (c.toNat : Int) % 16 < 16 := by omega
    have x3 : bits .and .u8 (c.toNat : Int) 15 = (c.toNat : Int) % 16 := by
      have := u8_and_nat c.toNat 15 (by omega) (by omega)
      rw [nat_mask4] at this
      rw [show ((c.toNat : Int) % 16) = ((c.toNat % 16 : Nat) : Int) by omega]
      exact this
    have hx : Hid (([92, 120, hexs[c.toNat / 16]'(by rw [hexs_len]; omega), hexs[c.toNat % 16]'(by rw [hexs_len]; omega)] : List UInt8) = [92, 120, Tr.hexd (c.toNat / 16), Tr.hexd (c.toNat % 16)]) := Lib.hid (by
      rw [← hexs_at ⟨c.toNat / 16, by omega⟩, ← hexs_at ⟨c.toNat % 16, by omega⟩])
    by_cases h2 : c.toNat < 33
    · have d1 : decide ((c.toNat : Int) < 33) = true := decide_eq_true (by omega)
      clear h1
      go_enter Tryd.func59, Tryd.ntmps59
      go_wp2_with fail
      go_region
      all_goals
        go_wp2_with fail
        go_ret
        exact ⟨ret_str hx.out, by (repeat (first | exact Below.refl _ _ | assumption | refine Below.drew ?_ | refine Below.alloc ?_ (by first | exact Nat.le_refl _ | (simp; done) | (simp; omega) | omega) _ | refine Below.setCell ?_ (by first | exact Nat.le_refl _ | (simp; done) | (simp; omega) | omega) _))⟩
    · have d1 : decide ((c.toNat : Int) < 33) = false := decide_eq_false (by omega)
      have d2 : decide ((126 : Int) < c.toNat) = true := decide_eq_true (by omega)
      clear h1
      go_enter Tryd.func59, Tryd.ntmps59
      go_wp2_with fail
      go_region
      all_goals
        go_wp2_with fail
        go_ret
        exact ⟨ret_str hx.out, by (repeat (first | exact Below.refl _ _ | assumption | refine Below.drew ?_ | refine Below.alloc ?_ (by first | exact Nat.le_refl _ | (simp; done) | (simp; omega) | omega) _ | refine Below.setCell ?_ (by first | exact Nat.le_refl _ | (simp; done) | (simp; omega) | omega) _))⟩
  · have d1 : decide ((c.toNat : Int) < 33) = false := decide_eq_false (by omega)
    have d2 : decide ((126 : Int) < c.toNat) = false := decide_eq_false (by omega)
    have hi := Lib.hid (ixb_any c l)
    cases hk : l.contains c
    · have e1 : Hid (Tr.one c l = [c]) := Lib.hid (by unfold Tr.one; rw [if_neg h1, hk]; rfl)
      rw [e1.out]
      rw [hk] at hi
      clear hk
      go_enter Tryd.func59, Tryd.ntmps59
      go_wp2_with fail
      refine (hi.out _).mono ?_
      rintro e w1 ⟨i, rfl, hd, rfl⟩
      clear hi
      go_wp2_with fail
      go_ret
      exact ⟨rfl, by (repeat (first | exact Below.refl _ _ | assumption | refine Below.drew ?_ | refine Below.alloc ?_ (by first | exact Nat.le_refl _ | (simp; done) | (simp; omega) | omega) _ | refine Below.setCell ?_ (by first | exact Nat.le_refl _ | (simp; done) | (simp; omega) | omega) _))⟩
    · have e1 : Hid (Tr.one c l = [92, c]) := Lib.hid (by unfold Tr.one; rw [if_neg h1, hk]; rfl)
      rw [e1.out]
      rw [hk] at hi
      clear hk
      go_enter Tryd.func59, Tryd.ntmps59
      go_wp2_with fail
      refine (hi.out _).mono ?_
      rintro e w1 ⟨i, rfl, hd, rfl⟩
      clear hi
      go_wp2_with fail
      go_ret
      exact ⟨rfl, by (repeat (first | exact Below.refl _ _ | assumption | refine Below.drew ?_ | refine Below.alloc ?_ (by first | exact Nat.le_refl _ | (simp; done) | (simp; omega) | omega) _ | refine Below.setCell ?_ (by first | exact Nat.le_refl _ | (simp; done) | (simp; omega) | omega) _))⟩
end Go.Proofs.YtebkaajnnjfhjaaDoor
