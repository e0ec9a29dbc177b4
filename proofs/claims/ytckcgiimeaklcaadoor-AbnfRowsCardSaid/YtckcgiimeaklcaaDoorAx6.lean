/-
  The reader's literal: walked.
-/
import Derived.Test.YtckcgiimeaklcaaDoorAx2
import Derived.Test.YtckcgiimeaklcaaDoorAx5
namespace Go.Proofs.YtckcgiimeaklcaaDoor
set_option linter.unusedVariables false
set_option linter.unusedSimpArgs false
open Go.RowKit Go.Proofs.YtckcgiimeaklcaaDoorW.PrintWords
open Ab (T El R Rs sz rootI post els root hasR szs)
def oddR (x : Nat) : Bool := decide (x < 32) || decide (126 < x)
theorem oddR_eq (x : Nat) : oddR x = (decide ((x : Int) < 32) || decide ((126 : Int) < (x : Int))) := by
  unfold oddR
  congr 1 <;> (apply decide_eq_decide.2; omega)
theorem litf_any (x : Nat) (hx : x ≤ 1114111) (W : World) : Calls Tryd.prog 70 #[.int .i32 x] W fun e w' => e = .returned (.bool (oddR x)) ∧ w' = W := by
  have hl := Lib.hid (oddR_eq x)
  go_enter Tryd.func70, Tryd.ntmps70
  go_wp2_with fail
  all_goals
    go_ret
    rw [hl.out]
    refine ⟨ret_bool ?_, rfl⟩
    simp [*]
    try omega
theorem decodeN_big (n b0 b1 b2 b3 : Nat) (h : 128 ≤ b0) : 128 ≤ (Lib.decodeN n b0 b1 b2 b3).1 := by
  unfold Lib.decodeN
  rw [if_neg (by omega)]
  repeat' split
  all_goals first | (simp only; omega) | (show 128 ≤ 65533; decide)
theorem get_drop (l : List UInt8) (pos : Nat) (c : UInt8) (t : List UInt8) (h : l.drop pos = c :: t) : pos < l.length ∧ (ByteArray.mk l.toArray).get! pos = c ∧ l.drop (pos + 1) = t := by
  have hp : pos < l.length := by
    rcases Nat.lt_or_ge pos l.length with h1 | h1
    · exact h1
    · rw [List.drop_eq_nil_of_le h1] at h; cases h
  rw [List.drop_eq_getElem_cons hp] at h
  injection h with h1 h2
  refine ⟨hp, ?_, h2⟩
  show l.toArray[pos]! = c
  simp [getElem!_pos, hp, h1]
theorem idx_odd (l : List UInt8) : ∀ (f pos : Nat), l.length ≤ f + pos → decide (0 ≤ Lib.idxFuncFrom oddR true ⟨l.toArray⟩ f pos) = (l.drop pos).any Ab.odd := by
  intro f
  induction f with
  | zero =>
    intro pos h
    rw [List.drop_eq_nil_of_le (by omega)]
    rfl
  | succ f ih =>
    intro pos h
    cases hd : l.drop pos with
    | nil =>
      have : l.length ≤ pos := by simpa using hd
      rw [Lib.idxFuncFrom, if_neg (by show ¬ pos < l.toArray.size; simp; omega)]
      rfl
    | cons c t =>
      obtain ⟨h1, h2, h3⟩ := get_drop l pos c t hd
      rw [Lib.idxFuncFrom, if_pos (by show pos < l.toArray.size; simpa using h1), Lib.decode_at, h2]
      by_cases hc : c.toNat < 128
      · rw [show ∀ n x y z, Lib.decodeN n c.toNat x y z = (c.toNat, 1) from fun n x y z => by unfold Lib.decodeN; rw [if_pos hc]]
        have e : oddR c.toNat = Ab.odd c := rfl
        simp only [e]
        cases ho : Ab.odd c
        · rw [if_neg (by simp), ih (pos + 1) (by omega), h3]
          simp [ho]
        · rw [if_pos rfl]
          simp [ho]
      · have hb := decodeN_big ((ByteArray.mk l.toArray).size - pos) c.toNat ((ByteArray.mk l.toArray).get! (pos + 1)).toNat ((ByteArray.mk l.toArray).get! (pos + 2)).toNat ((ByteArray.mk l.toArray).get! (pos + 3)).toNat (by omega)
        have e : ∀ x, 128 ≤ x → oddR x = true := fun x hx => by unfold oddR; simp; omega
        rw [if_pos (e _ hb)]
        have ho : Ab.odd c = true := by unfold Ab.odd; simp; omega
        simp [ho]
theorem idx_quote (l : List UInt8) : (l.dropWhile (· != 34) = [] ∧ Lib.index l [34] = -1) ∨ (l.dropWhile (· != 34) ≠ [] ∧ Lib.index l [34] = ((l.takeWhile (· != 34)).length : Int)) := by
  induction l with
  | nil => exact Or.inl ⟨rfl, rfl⟩
  | cons c t ih =>
    by_cases hc : c = 34
    · subst hc
      refine Or.inr ⟨by simp, ?_⟩
      simp [Lib.index]
    · have hp : List.isPrefixOf [34] (c :: t) = false := by simp [List.isPrefixOf]; exact fun e => hc e.symm
      have hn : (c != 34) = true := by simpa using hc
      have d1 : (c :: t).dropWhile (· != 34) = t.dropWhile (· != 34) := by simp [List.dropWhile, hn]
      have d2 : (c :: t).takeWhile (· != 34) = c :: t.takeWhile (· != 34) := by simp [List.takeWhile, hn]
      rw [Lib.index, hp, d1, d2]
      rcases ih with ⟨h1, h2⟩ | ⟨h1, h2⟩
      · exact Or.inl ⟨h1, by rw [h2]; rfl⟩
      · refine Or.inr ⟨h1, ?_⟩
        rw [h2]
        have : ((((t.takeWhile (· != 34)).length : Int)) == -1) = false := by simp
        rw [this]
        simp
theorem cut_quote (l : List UInt8) : Lib.cut l [34] = match l.dropWhile (· != 34) with
    | [] => (l, [], false)
    | _ :: r => (l.takeWhile (· != 34), r, true) := by
  have ht := List.takeWhile_append_dropWhile (p := (· != (34 : UInt8))) (l := l)
  have h1 := List.take_left (l₁ := l.takeWhile (· != 34)) (l₂ := l.dropWhile (· != 34))
  have h2 := List.drop_left (l₁ := l.takeWhile (· != 34)) (l₂ := l.dropWhile (· != 34))
  rw [ht] at h1 h2
  rcases idx_quote l with ⟨h, e⟩ | ⟨h, e⟩
  · rw [h]; unfold Lib.cut; rw [if_neg (by rw [e]; decide)]
  · cases hd : l.dropWhile (· != 34) with
    | nil => exact absurd hd h
    | cons d r =>
      unfold Lib.cut
      rw [if_pos (by rw [e]; omega), e]
      rw [hd] at h2
      simp only [Int.toNat_natCast, List.length_singleton, h1]
      rw [← List.drop_drop, h2]
      rfl
end Go.Proofs.YtckcgiimeaklcaaDoor
