/-
  PercentJoins: valid texts side by side are valid and say what they say side by side, and a cut between escapes: the call returns true.
-/
import Derived.Test.YtmgfhlkpmacehaaDec
import Derived.Test.YtmgfhlkpmacehaaAwake
import Derived.Test.YtmgfhlkpmacehaaLaw
namespace Go.Proofs.Ytmgfhlkpmacehaa
open Go.RowKit Go.Proofs.YtmgfhlkpmacehaaW.PrintWords

/-- Two texts: both valid, and so together; or the one or the other is not. -/
theorem joins_dec (s t : Pc.B) : (Pc.valid s = true ∧ Pc.valid t = true ∧ Pc.valid (s ++ t) = true ∧ decV (s ++ t) = decV s ++ decV t) ∨ Pc.valid s = false ∨ Pc.valid t = false := by
  cases hs : Pc.valid s
  · exact Or.inr (Or.inl rfl)
  · cases ht : Pc.valid t
    · exact Or.inr (Or.inr rfl)
    · obtain ⟨h1, h2⟩ := Pc.joins s t hs ht
      refine Or.inl ⟨rfl, rfl, h1, ?_⟩
      simp [decV, hs, ht, h1, h2]
theorem cut_dec (s : Pc.B) (k : Nat) : (Pc.valid (s.take k) = true ∧ Pc.valid (s.drop k) = true ∧ Pc.valid s = true ∧ decV (s.take k) ++ decV (s.drop k) = decV s) ∨ Pc.valid (s.take k) = false ∨ Pc.valid (s.drop k) = false := by
  rcases joins_dec (s.take k) (s.drop k) with ⟨h1, h2, h3, h4⟩ | h | h
  · rw [List.take_append_drop] at h3 h4
    exact Or.inl ⟨h1, h2, h3, h4.symm⟩
  · exact Or.inr (Or.inl h)
  · exact Or.inr (Or.inr h)

theorem decV_len (s : Pc.B) : (decV s).length ≤ s.length := by
  unfold decV
  split
  · exact Pc.dec_len _ s rfl
  · simp

set_option maxRecDepth 100000 in
set_option maxHeartbeats 1600000 in
theorem joins_list (l r : Pc.B) (hl0 : l.length ≤ 9223372036854775807) (hr0 : r.length ≤ 9223372036854775807) (c : Int) (hc0 : 0 ≤ c) (hc1 : c ≤ 65535) (w : World) : Calls Try.prog 6 #[.string ⟨l.toArray⟩, .string ⟨r.toArray⟩, .int .u16 c] w fun e w' => e = .returned (.bool true) ∧ Below w.heap.size w w' := by
  have hml : ∃ m : Pc.B, m.length ≤ 3000 ∧ m = if 3000 < l.length then l.take 3000 else l := by
    refine ⟨_, ?_, rfl⟩
    split
    · simp; omega
    · omega
  obtain ⟨ml, hll, hel⟩ := hml
  have hmr : ∃ m : Pc.B, m.length ≤ 3000 ∧ m = if 3000 < r.length then r.take 3000 else r := by
    refine ⟨_, ?_, rfl⟩
    split
    · simp; omega
    · omega
  obtain ⟨mr, hlr, her⟩ := hmr
  by_cases h5 : 3000 < l.length <;> by_cases h6 : 3000 < r.length
  all_goals
    first | rw [if_pos h5] at hel | rw [if_neg h5] at hel
    first | rw [if_pos h6] at her | rw [if_neg h6] at her
    have HM := Lib.hid hel
    have HN := Lib.hid her
    clear hel her
    have HB := Below.refl w.heap.size w
    go_enter Try.func6, Try.ntmps6
    go_wp2_with fail
    rw [← HM.out]
    rw [← HN.out]
    clear HM HN h5 h6 hl0 hr0
    go_wp2_with fail
    refine (decode_any _ (by omega) _).mono ?_
    rintro e w1 ⟨rfl, B1⟩
    replace HB := bthen HB B1
    clear B1
    go_wp2_with fail
    refine (decode_any _ (by omega) _).mono ?_
    rintro e w1 ⟨rfl, B1⟩
    replace HB := bthen HB B1
    clear B1
    have hs1 : (ml ++ mr).length ≤ 6000 := by rw [List.length_append]; omega
    have hs2 : ¬ (9223372036854775807 < (ml.length : Int) + (mr.length : Int)) := by omega
    have hw : IntKind.i64.wrap ((ml.length : Int) + 1) = (ml.length : Int) + 1 := IntWalk.i64_in _ (by omega)
    obtain ⟨k, hk, hkl⟩ : ∃ k : Nat, Int.tmod c ((ml.length : Int) + 1) = (k : Int) ∧ k ≤ ml.length := by
      have h1 := Int.tmod_eq_emod_of_nonneg hc0 (b := (ml.length : Int) + 1)
      have h2 := Int.emod_nonneg c (b := (ml.length : Int) + 1) (by omega)
      have h3 := Int.emod_lt_of_pos c (b := (ml.length : Int) + 1) (by omega)
      exact ⟨(c % ((ml.length : Int) + 1)).toNat, by omega, by omega⟩
    have hs3 : (ml.take k).length ≤ 3000 := by rw [List.length_take]; omega
    have hs4 : (ml.drop k).length ≤ 3000 := by rw [List.length_drop]; omega
    have hd1 : ¬ (9223372036854775807 < (decV ml).length + (decV mr).length) := by
      have := decV_len ml
      have := decV_len mr
      omega
    have hd2 : ¬ (9223372036854775807 < (decV (ml.take k)).length + (decV (ml.drop k)).length) := by
      have := decV_len (ml.take k)
      have := decV_len (ml.drop k)
      omega
    rcases joins_dec ml mr with ⟨v1, v2, v3, v4⟩ | v1 | v1
    all_goals
      rcases cut_dec ml k with ⟨v5, v6, v7, v8⟩ | v5 | v5
      all_goals
        first
          | exact Bool.noConfusion (v7.symm.trans v1 : true = false)
          | (go_wp2_with (first | (go_at_call 9; refine (decode_any _ (by omega) _).mono ?_; rintro e w1 ⟨rfl, B1⟩; replace HB := bthen HB B1; clear B1) | (go_at_call 11; refine (valid_any _ (by omega) _).mono ?_; rintro e w1 ⟨rfl, rfl⟩) | (go_at_call 16; refine (upper_any _ (by omega) _).mono ?_; rintro e w1 ⟨rfl, B1⟩; replace HB := bthen HB B1; clear B1) | (go_at_call 18; refine (awake_any _).mono ?_; rintro e w1 ⟨rfl, B1⟩; replace HB := bthen HB B1; clear B1))
             all_goals go_ret
             all_goals exact ⟨rfl, HB⟩)

theorem joins_any (a : ByteArray) (ha : a.size ≤ maxLen) (b : ByteArray) (hb : b.size ≤ maxLen) (c : Int) (hc : IntKind.u16.min ≤ c ∧ c ≤ IntKind.u16.max) (w : World) : Calls Try.prog 6 #[.string a, .string b, .int .u16 c] w fun e w' => e = .returned (.bool true) ∧ Below w.heap.size w w' := by
  have h : a.data.toList.length ≤ 9223372036854775807 := by rw [data_length]; exact ha
  have h' : b.data.toList.length ≤ 9223372036854775807 := by rw [data_length]; exact hb
  rw [str_eq a, str_eq b]
  exact joins_list _ _ h h' c hc.1 hc.2 w
end Go.Proofs.Ytmgfhlkpmacehaa
