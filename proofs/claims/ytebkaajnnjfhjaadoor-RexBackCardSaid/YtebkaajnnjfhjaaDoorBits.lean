/-
  The members of a word, least first: how it loses its least bit. No program in sight.
-/
import Derived.Test.YtebkaajnnjfhjaaDoorT
import Derived.Lib.TrailingZeros
namespace Go.Proofs.YtebkaajnnjfhjaaDoor
set_option linter.unusedVariables false
set_option linter.unusedSimpArgs false
namespace Tr

def bitsOf (i x : Nat) : B := ((List.range 64).filter fun j => x.testBit j).map fun j => UInt8.ofNat (64 * i + j)
theorem ctz_bits (x : Nat) (h0 : x ≠ 0) (hx : x < 18446744073709551616) : Lib.ctz 64 x < 64 ∧ x.testBit (Lib.ctz 64 x) = true ∧ (∀ j, j < Lib.ctz 64 x → x.testBit j = false) ∧ ∀ j, (x &&& (x - 1)).testBit j = (x.testBit j && decide (j ≠ Lib.ctz 64 x)) := by
  obtain ⟨m, hm, hk⟩ := Lib.ctzFrom_spec 64 x (by omega) (by omega)
  have e : Lib.ctz 64 x = Lib.ctzFrom 64 x := by unfold Lib.ctz; rw [if_neg h0]
  rw [e]
  generalize Lib.ctzFrom 64 x = k at hm hk
  have hp : 0 < 2 ^ k := Nat.two_pow_pos k
  have h1 : ∀ j, x.testBit j = if j < k then false else (2 * m + 1).testBit (j - k) := by
    intro j
    have := Nat.testBit_two_pow_mul_add (2 * m + 1) (b := 0) (i := k) hp j
    rw [Nat.add_zero] at this
    rw [hm, this]
    simp
  have hx1 : x - 1 = 2 ^ k * (2 * m) + (2 ^ k - 1) := by
    rw [hm, Nat.mul_add, Nat.mul_one]; omega
  have h2 : ∀ j, (x - 1).testBit j = if j < k then true else (2 * m).testBit (j - k) := by
    intro j
    rw [hx1, Nat.testBit_two_pow_mul_add (2 * m) (by omega) j]
    split
    · rename_i h; rw [Nat.testBit_two_pow_sub_one]; simp [h]
    · rfl
  have hz : (2 * m + 1).testBit 0 = true := by simp [Nat.testBit_zero]
  have hz' : (2 * m).testBit 0 = false := by simp [Nat.testBit_zero]
  have hs : ∀ j, (2 * m + 1).testBit (j + 1) = (2 * m).testBit (j + 1) := by
    intro j
    rw [Nat.testBit_succ, Nat.testBit_succ]
    congr 1
    omega
  refine ⟨hk, by rw [h1]; simp [hz], fun j hj => by rw [h1, if_pos hj], fun j => ?_⟩
  rw [Nat.testBit_and, h1, h2]
  by_cases hj : j < k
  · rw [if_pos hj, if_pos hj]; simp
  · rw [if_neg hj, if_neg hj]
    by_cases he : j = k
    · subst he; simp [hz']
    · obtain ⟨d, rfl⟩ : ∃ d, j = k + (d + 1) := ⟨j - k - 1, by omega⟩
      rw [show k + (d + 1) - k = d + 1 by omega, hs]
      simp
theorem filter_least (p q : Nat → Bool) (n k : Nat) (hk : k < n) (h1 : p k = true) (h2 : ∀ j, j < k → p j = false) (h3 : ∀ j, q j = (p j && decide (j ≠ k))) : (List.range n).filter p = k :: (List.range n).filter q := by
  obtain ⟨m, rfl⟩ : ∃ m, n = (k + 1) + m := ⟨n - k - 1, by omega⟩
  have f1 : (List.range k).filter p = [] := by
    rw [List.filter_eq_nil_iff]
    intro j hj
    rw [h2 j (by simpa using hj)]; simp
  have f2 : (List.range k).filter q = [] := by
    rw [List.filter_eq_nil_iff]
    intro j hj
    rw [h3, h2 j (by simpa using hj)]; simp
  rw [List.range_add, List.filter_append, List.filter_append, List.range_succ, List.filter_append, List.filter_append, f1, f2]
  have g1 : [k].filter p = [k] := by simp [h1]
  have g2 : [k].filter q = [] := by simp [h3]
  rw [g1, g2]
  simp only [List.nil_append, List.cons_append]
  congr 1
  refine List.filter_congr fun j hj => ?_
  obtain ⟨i, _, rfl⟩ := List.mem_map.1 hj
  rw [h3]
  have : k + 1 + i ≠ k := by omega
  simp [this]
theorem bitsOf_step (i x : Nat) (h0 : x ≠ 0) (hx : x < 18446744073709551616) : bitsOf i x = UInt8.ofNat (64 * i + Lib.ctz 64 x) :: bitsOf i (x &&& (x - 1)) := by
  obtain ⟨h1, h2, h3, h4⟩ := ctz_bits x h0 hx
  unfold bitsOf
  rw [filter_least (fun j => x.testBit j) (fun j => (x &&& (x - 1)).testBit j) 64 _ h1 h2 h3 h4]
  rfl
theorem bitsOf_zero (i : Nat) : bitsOf i 0 = [] := by
  unfold bitsOf
  simp
theorem bitsOf_len (i x : Nat) : (bitsOf i x).length ≤ 64 := by
  unfold bitsOf
  rw [List.length_map]
  exact Nat.le_trans (List.length_filter_le _ _) (by simp)
def wordsTo (s : W4) : Nat → B
  | 0 => []
  | k + 1 => wordsTo s k ++ bitsOf k (s.word k)
theorem wordsTo_eq (s : W4) (k : Nat) : wordsTo s k = ((List.range (64 * k)).filter fun n => s.has n).map UInt8.ofNat := by
  induction k with
  | zero => rfl
  | succ k ih =>
    rw [wordsTo, ih, show 64 * (k + 1) = 64 * k + 64 by omega, List.range_add, List.filter_append, List.map_append]
    congr 1
    unfold bitsOf
    rw [List.filter_map, List.map_map]
    have e : ∀ j ∈ List.range 64, (s.word k).testBit j = ((fun n => s.has n) ∘ fun x => 64 * k + x) j := by
      intro j hj
      have hj' : j < 64 := by simpa using hj
      simp only [Function.comp]
      unfold W4.has
      rw [show (64 * k + j) / 64 = k by omega, show (64 * k + j) % 64 = j by omega]
    rw [List.filter_congr e]
    rfl
theorem mems_words (s : W4) : mems s = wordsTo s 4 := by rw [wordsTo_eq]; rfl
theorem wordsTo_len (s : W4) (k : Nat) : (wordsTo s k).length ≤ 64 * k := by
  induction k with
  | zero => simp [wordsTo]
  | succ k ih => rw [wordsTo, List.length_append]; have := bitsOf_len k (s.word k); omega
end Tr
end Go.Proofs.YtebkaajnnjfhjaaDoor
