/-
  The document's has, Byte and wrap: walked.
-/
import Derived.Test.YtebkaajnnjfhjaaDoorOne
import Derived.Test.YtebkaajnnjfhjaaDoorSetw
namespace Go.Proofs.YtebkaajnnjfhjaaDoor
set_option linter.unusedVariables false
set_option linter.unusedSimpArgs false
open Go.RowKit Go.Proofs.YtebkaajnnjfhjaaDoorW.PrintWords
open Tr (one wr)

theorem hexs_take1 (n : Nat) (h : n < 16) : List.take 1 (List.drop n ([48, 49, 50, 51, 52, 53, 54, 55, 56, 57, 97, 98, 99, 100, 101, 102] : List UInt8)) = [Tr.hexd n] := by
  have := hexs_at ⟨n, h⟩
  have e := List.drop_eq_getElem_cons (show n < hexs.length by rw [hexs_len]; exact h)
  show List.take 1 (List.drop n hexs) = _
  rw [e, List.take_succ_cons, List.take_zero]
  simp only at this
  rw [this]
theorem has_step (l : List UInt8) (c : UInt8) (k : Nat) (h : k < l.length) : (l.take (k + 1)).contains c = ((l.take k).contains c || l[k] == c) := by
  rw [List.take_succ_eq_append_getElem h, Bool.eq_iff_iff, Bool.or_eq_true, List.contains_iff_mem, List.contains_iff_mem, List.mem_append, beq_iff_eq]
  constructor
  · rintro (h | h)
    · exact .inl h
    · exact .inr (List.mem_singleton.1 h).symm
  · rintro (h | h)
    · exact .inl h
    · exact .inr (List.mem_singleton.2 h.symm)
set_option maxRecDepth 100000 in
theorem has_any (l : List UInt8) (c : UInt8) (hl : l.length ≤ 1000) (w : World) : Calls Tryd.prog 76 #[.string ⟨l.toArray⟩, .int .i64 c.toNat] w fun e w' => e = .returned (.bool (l.contains c)) ∧ Below w.heap.size w w' := by
  generalize hr : l.contains c = r
  have HR := Lib.hid hr
  clear hr
  go_enter Tryd.func76, Tryd.ntmps76
  go_wp2_with fail
  go_loopw [5] (fun iv wr => ∃ k : Nat, k ≤ l.length ∧ iv = .int .i64 k ∧ Below w.heap.size w wr ∧ Hid ((l.take k).contains c = false)) (fun iv _ => l.length - (RowKit.intOf iv).toNat)
  case atStart => exact ⟨0, by omega, rfl, Below.refl _ _, Lib.hid (by simp)⟩
  case round =>
    obtain ⟨k, hk, rfl, HB, HC⟩ := hrel
    by_cases hlt : k < l.length
    · have hst := Lib.hid (has_step l c k hlt)
      have hb1 := l[k].toNat_lt
      have hb2 := c.toNat_lt
      have hub := u8_beq l[k] c
      have hin := Lib.hid (List.contains_iff_mem.2 (List.getElem_mem hlt))
      by_cases he : l[k] = c
      · have HF : Hid (r = true) := Lib.hid (by rw [← HR.out, ← he]; exact hin.out)
        have h1 : l[k].toNat = c.toNat := by rw [he]
        clear hub he hst hin
        go_wp2_with fail
        go_ret
        exact ⟨by rw [HF.out]; rfl, HB⟩
      · have h1 : ¬ l[k].toNat = c.toNat := fun e => he (UInt8.toNat_inj.1 e)
        have h2 : ¬ (l[k].toNat : Int) = c.toNat := by omega
        have HN : Hid ((l.take (k + 1)).contains c = false) := Lib.hid (by
          rw [hst.out, HC.out]; simpa using he)
        clear hub he hst hin
        go_wp2_with fail
        go_roundw
        case rel => exact ⟨k + 1, by omega, by go_num, by first | exact HB | exact HB.drew, HN⟩
        case measure => simp [RowKit.intOf]; omega
    · have HF : Hid (r = false) := Lib.hid (by
        have := HC.out
        rw [List.take_of_length_le (by omega), HR.out] at this
        exact this)
      go_wp2_with fail
      go_ret
      exact ⟨by rw [HF.out]; rfl, HB⟩
set_option maxRecDepth 100000 in
set_option maxHeartbeats 1600000 in
theorem byte_any (c : UInt8) (l : List UInt8) (hl : l.length ≤ 1000) (w : World) : Calls Tryd.prog 66 #[.int .i64 c.toNat, .string ⟨l.toArray⟩] w fun e w' => e = .returned (.string ⟨(one c l).toArray⟩) ∧ Below w.heap.size w w' := by
  have hc := c.toNat_lt
  by_cases h1 : c.toNat < 33 ∨ 126 < c.toNat
  · have e1 : Hid (one c l = [92, 120] ++ List.take 1 (List.drop (c.toNat / 16) ([48, 49, 50, 51, 52, 53, 54, 55, 56, 57, 97, 98, 99, 100, 101, 102] : List UInt8)) ++ List.take 1 (List.drop (c.toNat % 16) ([48, 49, 50, 51, 52, 53, 54, 55, 56, 57, 97, 98, 99, 100, 101, 102] : List UInt8))) := Lib.hid (by unfold Tr.one; rw [if_pos h1, hexs_take1 _ (by omega), hexs_take1 _ (by omega)]; rfl)
    rw [e1.out]
    by_cases h2 : c.toNat < 33
    · have d1 : decide ((c.toNat : Int) < 33) = true := decide_eq_true (by omega)
      clear h1 h2
      go_enter Tryd.func66, Tryd.ntmps66
      go_wp2_with fail
      (try go_region)
      all_goals
        go_wp2_with fail
        go_ret
        exact ⟨rfl, by (repeat (first | exact Below.refl _ _ | assumption | refine Below.drew ?_ | refine Below.alloc ?_ (by first | exact Nat.le_refl _ | (simp; done) | (simp; omega) | omega) _ | refine Below.setCell ?_ (by first | exact Nat.le_refl _ | (simp; done) | (simp; omega) | omega) _))⟩
    · have d1 : decide ((c.toNat : Int) < 33) = false := decide_eq_false (by omega)
      have d2 : decide ((126 : Int) < c.toNat) = true := decide_eq_true (by omega)
      clear h1 h2
      go_enter Tryd.func66, Tryd.ntmps66
      go_wp2_with fail
      (try go_region)
      all_goals
        go_wp2_with fail
        go_ret
        exact ⟨rfl, by (repeat (first | exact Below.refl _ _ | assumption | refine Below.drew ?_ | refine Below.alloc ?_ (by first | exact Nat.le_refl _ | (simp; done) | (simp; omega) | omega) _ | refine Below.setCell ?_ (by first | exact Nat.le_refl _ | (simp; done) | (simp; omega) | omega) _))⟩
  · have d1 : decide ((c.toNat : Int) < 33) = false := decide_eq_false (by omega)
    have d2 : decide ((126 : Int) < c.toNat) = false := decide_eq_false (by omega)
    have hm : (c.toNat : Int) % 256 = c.toNat := by omega
    have hcv := cv_1 w c.toNat
    rw [u8_back] at hcv
    have HH := Lib.hid (fun w1 => has_any l c hl w1)
    cases hb : l.contains c
    all_goals
      rw [hb] at HH
      have e1 : Hid (one c l = if l.contains c then [92, c] else [c]) := Lib.hid (by unfold Tr.one; rw [if_neg h1])
      rw [e1.out, hb]
      clear e1 hb h1
      simp only [if_true, Bool.false_eq_true, if_false]
      go_enter Tryd.func66, Tryd.ntmps66
      go_wp2_with fail
      refine (HH.out _).mono ?_
      rintro e w1 ⟨rfl, B1⟩
      go_wp2_with fail
      go_ret
      exact ⟨by first | rfl | simp, bthen ((Below.refl _ _).alloc (Nat.le_refl _) _) B1⟩
theorem wrap_any (l : List UInt8) (yes : Bool) (hl : l.length ≤ 1000000000) (w : World) : Calls Tryd.prog 55 #[.string ⟨l.toArray⟩, .bool yes] w fun e w' => e = .returned (.string ⟨(wr yes l).toArray⟩) ∧ Below w.heap.size w w' := by
  have hz : ¬ 9223372036854775807 < 1 + l.length := by omega
  have hz2 : ¬ 9223372036854775807 < 1 + l.length + 1 := by omega
  have hz3 : ¬ 9223372036854775807 < 1 + (l.length + 1) := by omega
  have hz4 : ¬ 9223372036854775807 < l.length + 1 + 1 := by omega
  cases yes
  · have HT : Hid (wr false l = l) := Lib.hid rfl
    rw [HT.out]
    go_enter Tryd.func55, Tryd.ntmps55
    go_wp2_with fail
    go_ret
    exact ⟨rfl, by (repeat (first | exact Below.refl _ _ | assumption | refine Below.drew ?_ | refine Below.alloc ?_ (by first | exact Nat.le_refl _ | (simp; done) | (simp; omega) | omega) _ | refine Below.setCell ?_ (by first | exact Nat.le_refl _ | (simp; done) | (simp; omega) | omega) _))⟩
  · have HT : Hid (wr true l = 40 :: (l ++ [41])) := Lib.hid rfl
    rw [HT.out]
    go_enter Tryd.func55, Tryd.ntmps55
    go_wp2_with fail
    go_ret
    exact ⟨ret_str (by simp), by (repeat (first | exact Below.refl _ _ | assumption | refine Below.drew ?_ | refine Below.alloc ?_ (by first | exact Nat.le_refl _ | (simp; done) | (simp; omega) | omega) _ | refine Below.setCell ?_ (by first | exact Nat.le_refl _ | (simp; done) | (simp; omega) | omega) _))⟩
end Go.Proofs.YtebkaajnnjfhjaaDoor
